/- Plain facts on queues of labels that can be: identifiers rise as entries come; no program in sight. -/
import Derived.Test.YtkpjfmlhjpbdhaaWins2
import Derived.Test.YtkpjfmlhjpbdhaaQput2
import Derived.Test.YtkpjfmlhjpbdhaaQtake
namespace Go.Proofs.Ytkpjfmlhjpbdhaa
open Go.RowKit Go.Lib Go.Sort

def Ent.ok (e : Ent) : Prop := lright e.c e.s e.t e.n = true
def Ent.id (e : Ent) : Int := idNum e.c e.s e.t e.n

theorem id_le (x y : Ent) (hx : x.ok) (hy : y.ok) (h : ¬ ltE y x) : x.id ≤ y.id := by
  have h1 : 1 ≤ x.c ∧ x.c ≤ 3 ∧ 0 ≤ x.s ∧ x.s ≤ 255 ∧ 0 ≤ x.t ∧ x.t ≤ 2047 ∧ 0 ≤ x.n ∧ x.n ≤ 31 := of_decide_eq_true hx
  have h2 : 1 ≤ y.c ∧ y.c ≤ 3 ∧ 0 ≤ y.s ∧ y.s ≤ 255 ∧ 0 ≤ y.t ∧ y.t ≤ 2047 ∧ 0 ≤ y.n ∧ y.n ≤ 31 := of_decide_eq_true hy
  unfold ltE ltL at h
  unfold Ent.id idNum
  omega

theorem id_bd (x : Ent) (hx : x.ok) : 0 ≤ x.id ∧ x.id < 536870912 := by
  have h1 : 1 ≤ x.c ∧ x.c ≤ 3 ∧ 0 ≤ x.s ∧ x.s ≤ 255 ∧ 0 ≤ x.t ∧ x.t ≤ 2047 ∧ 0 ≤ x.n ∧ x.n ≤ 31 := of_decide_eq_true hx
  unfold Ent.id idNum
  omega

theorem idxT_none (g : Int) (es : List Ent) (h : ∀ e ∈ es, e.g ≠ g) : ∀ i, idxT g es i = -1 := by
  induction es with
  | nil => intro i; rfl
  | cons a l ih => intro i; rw [idxT, if_neg (h a (by simp))]; exact ih (fun e he => h e (by simp [he])) _

/-- a queue into which k labels that can be were laid, with the tags 0 to k-1 -/
structure Laid (es : List Ent) (k : Nat) : Prop where
  len : es.length = k
  sorted : Sorted es
  ok : ∀ e ∈ es, e.ok
  tag : ∀ e ∈ es, e.g < k

theorem Laid.nil : Laid [] 0 := ⟨rfl, List.Pairwise.nil, by simp, by simp⟩

theorem Laid.put {es es' : List Ent} {k : Nat} (h : Laid es k) (x : Ent) (hx : x.ok) (hg : x.g = k) (hp : es'.Perm (es ++ [x])) (hs : Sorted es') : Laid es' (k + 1) := by
  refine ⟨by rw [hp.length_eq, List.length_append, h.len]; rfl, hs, ?_, ?_⟩
  · intro e he
    rcases List.mem_append.1 (hp.mem_iff.1 he) with h1 | h1
    · exact h.ok e h1
    · simp at h1; subst h1; exact hx
  · intro e he
    rcases List.mem_append.1 (hp.mem_iff.1 he) with h1 | h1
    · have := h.tag e h1; omega
    · simp at h1; subst h1; omega

theorem Laid.none {es : List Ent} {k : Nat} (h : Laid es k) : idxT k es 0 = -1 := idxT_none _ _ (fun e he => by have := h.tag e he; omega) 0

/-- what is left, and the last identifier that was taken -/
structure Left (es : List Ent) (last : Int) : Prop where
  sorted : Sorted es
  ok : ∀ e ∈ es, e.ok
  last : ∀ e ∈ es, last ≤ e.id

theorem Left.next {x : Ent} {l : List Ent} {last : Int} (h : Left (x :: l) last) : Left l x.id := by
  have hs := List.pairwise_cons.1 h.sorted
  exact ⟨hs.2, fun e he => h.ok e (by simp [he]), fun e he => id_le x e (h.ok x (by simp)) (h.ok e (by simp [he])) (hs.1 e he)⟩

theorem idxT_head (x : Ent) (l : List Ent) : idxT x.g (x :: l) 0 = (0 : Nat) := by simp [idxT]

end Go.Proofs.Ytkpjfmlhjpbdhaa
