/- Tags of a queue's entries: which there are; no program in sight. -/
import Derived.Test.YtkpjfmlhjpbdhaaTopPlain
import Derived.Test.YtkpjfmlhjpbdhaaQlab
namespace Go.Proofs.Ytkpjfmlhjpbdhaa

theorem idxT_some (g : Int) : ∀ (es : List Ent) (j : Nat), (∃ e ∈ es, e.g = g) → ∃ k, k < es.length ∧ idxT g es j = ((j + k : Nat) : Int) := by
  intro es
  induction es with
  | nil => intro j h; obtain ⟨e, h, _⟩ := h; cases h
  | cons a l ih =>
    intro j h
    by_cases ha : a.g = g
    · exact ⟨0, by simp, by simp [idxT, ha]⟩
    · obtain ⟨e, he, hg⟩ := h
      rcases List.mem_cons.1 he with rfl | he
      · exact absurd hg ha
      · obtain ⟨k, hk, hi⟩ := ih (j + 1) ⟨e, he, hg⟩
        refine ⟨k + 1, by simp; omega, ?_⟩
        rw [idxT, if_neg ha]
        rw [hi]; omega

/-- the tags are those from 0 on, below n -/
def Tags (es : List Ent) (n : Nat) : Prop := (es.map (·.g)).Perm ((List.range n).map fun i : Nat => (i : Int))

theorem Tags.nil : Tags [] 0 := List.Perm.refl _
theorem Tags.len {es : List Ent} {n : Nat} (h : Tags es n) : es.length = n := by simpa using h.length_eq
theorem Tags.put {es es' : List Ent} {n : Nat} (h : Tags es n) (x : Ent) (hx : x.g = n) (hp : es'.Perm (es ++ [x])) : Tags es' (n + 1) := by
  unfold Tags at *
  refine (hp.map _).trans ?_
  rw [List.map_append, List.range_succ, List.map_append]
  exact h.append (by simp [hx])
theorem Tags.none {es : List Ent} {n : Nat} (h : Tags es n) : idxT n es 0 = -1 := by
  refine idxT_none _ _ (fun e he hg => ?_) 0
  have := h.mem_iff.1 (List.mem_map.2 ⟨e, he, rfl⟩)
  simp only [List.mem_map, List.mem_range] at this
  obtain ⟨i, hi, hi2⟩ := this
  omega
theorem Tags.some {es : List Ent} {n i : Nat} (h : Tags es n) (hi : i < n) : ∃ k, k < es.length ∧ idxT i es 0 = (k : Nat) := by
  have : (i : Int) ∈ es.map (·.g) := h.mem_iff.2 (List.mem_map.2 ⟨i, List.mem_range.2 hi, rfl⟩)
  obtain ⟨e, he, hg⟩ := List.mem_map.1 this
  obtain ⟨k, hk, h2⟩ := idxT_some i es 0 ⟨e, he, hg⟩
  exact ⟨k, hk, by rw [h2, Nat.zero_add]⟩
theorem Tags.lab {es es' : List Ent} {n k : Nat} (h : Tags es n) (hk : k < es.length) {c s t m : Int} (hp : es'.Perm (es.set k ((es[k]).lab c s t m))) : Tags es' n := by
  unfold Tags at *
  refine (hp.map _).trans ?_
  rw [List.map_set]
  have : ((es[k]).lab c s t m).g = (es.map (·.g))[k]'(by simpa using hk) := by simp [Ent.lab]
  rw [this, List.set_getElem_self]
  exact h

end Go.Proofs.Ytkpjfmlhjpbdhaa
