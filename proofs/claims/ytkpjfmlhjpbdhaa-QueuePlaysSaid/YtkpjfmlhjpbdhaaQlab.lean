/- Contracts: giving an entry another label. -/
import Derived.Test.YtkpjfmlhjpbdhaaQtake
namespace Go.Proofs.Ytkpjfmlhjpbdhaa
open Go.RowKit Go.Lib Go.Sort
attribute [local go_sem ↓] Go.wp_at_zero Go.wp_at_succ

theorem label_none (base B : Nat) (es : List Ent) (room g c s t n : Int) (w : World) (hq : IsQ w base B es room) (hg : idxT g es 0 = -1) : Calls Try.prog 12 #[.pointer (some ⟨B, 0, none⟩), .int .i64 g, labV c s t n] w fun e w' =>
    e = .returned (.int .i64 7) ∧ Below w.heap.size w w' := by
  have hcon := fun W (hW : Below w.heap.size w W) => at_any base B es room g W (hq.below hW)
  rw [hg] at hcon
  clear hq hg
  have HC := Lib.hid hcon; clear hcon
  go_enter Try.func12, Try.ntmps12
  go_wp2_with fail
  refine (HC.out _ ((Below.refl _ _).alloc (Nat.le_refl _) _)).mono ?_
  rintro e w' ⟨rfl, hE⟩
  have HE := Lib.hid hE; clear hE
  go_wp2
  go_ret
  exact ⟨rfl, ((Below.refl _ _).alloc (Nat.le_refl _) _).trans (HE.out.mono (by simp))⟩

theorem label_nil (g c s t n : Int) (w : World) : Calls Try.prog 12 #[.pointer none, .int .i64 g, labV c s t n] w fun e w' =>
    e = .returned (.int .i64 7) ∧ Below w.heap.size w w' := by
  go_enter Try.func12, Try.ntmps12
  go_wp2_with fail
  refine (at_nil _ _).mono ?_
  rintro e w' ⟨rfl, rfl⟩
  go_wp2
  go_ret
  exact ⟨rfl, (Below.refl _ _).alloc (Nat.le_refl _) _⟩

theorem label_range (base B : Nat) (es : List Ent) (room g c s t n : Int) (w : World) (hq : IsQ w base B es room) (hg : 0 ≤ idxT g es 0) (hr : lright c s t n = false) : Calls Try.prog 12 #[.pointer (some ⟨B, 0, none⟩), .int .i64 g, labV c s t n] w fun e w' =>
    e = .returned (.int .i64 1) ∧ Below w.heap.size w w' := by
  have hcon := fun W (hW : Below w.heap.size w W) => at_any base B es room g W (hq.below hW)
  have hR := cright_any c s t n
  rw [hr] at hR
  generalize idxT g es 0 = k at *
  clear hq hr
  have HC := Lib.hid hcon; clear hcon
  have HR := Lib.hid hR; clear hR
  go_enter Try.func12, Try.ntmps12
  go_wp2_with fail
  refine (HC.out _ ((Below.refl _ _).alloc (Nat.le_refl _) _)).mono ?_
  rintro e w1 ⟨rfl, hE⟩
  obtain ⟨hc, hf⟩ := bcell hE
  have HE := Lib.hid hE; clear hE
  go_wp2_with fail
  refine (HR.out _).mono ?_
  rintro e w2 ⟨rfl, hE2⟩
  have HE2 := Lib.hid hE2; clear hE2
  go_wp2
  go_ret
  have h1 := ((Below.refl w.heap.size w).alloc (Nat.le_refl _) (.cells #[.int .i64 c, .int .i64 s, .int .i64 t, .int .i64 n] 33)).trans (HE.out.mono (by simp))
  exact ⟨rfl, h1.trans (HE2.out.below.mono h1.size)⟩

/-- an entry with another label -/
def Ent.lab (e : Ent) (c s t n : Int) : Ent := ⟨c, s, t, n, e.g⟩

theorem setL_take {α : Type} (vs : List α) (N : Nat) : ∀ (l : List α) (o : Nat), (setL l o vs).take N = setL (l.take N) o vs := by
  induction vs with
  | nil => intro l o; rfl
  | cons v r ih => intro l o; rw [setL, setL, ih, List.take_set]

theorem encs_set (es : List Ent) (k : Nat) (hk : k < es.length) (c s t n : Int) : setL (encs es) (k * 5) [.int .i64 c, .int .i64 s, .int .i64 t, .int .i64 n] = encs (es.set k ((es[k]).lab c s t n)) := by
  have hl := encs_length es
  rw [setL_eq _ _ _ (by rw [hl]; simp; omega)]
  have e1 : encs es = encs (es.take k) ++ (es[k].enc ++ encs (es.drop (k + 1))) := by
    have h := encs_append (es.take k) (es.drop k)
    rw [List.take_append_drop] at h
    rw [h, List.drop_eq_getElem_cons hk]; rfl
  have e2 : encs (es.set k ((es[k]).lab c s t n)) = encs (es.take k) ++ (((es[k]).lab c s t n).enc ++ encs (es.drop (k + 1))) := by
    rw [List.set_eq_take_append_cons_drop, if_pos hk, encs_append]; rfl
  have hlt : (encs (es.take k)).length = k * 5 := by rw [encs_length]; simp; omega
  rw [e2, e1, List.take_left' hlt, List.drop_append, hlt, List.drop_eq_nil_of_le (by rw [hlt]; simp)]
  simp only [List.length_cons, List.length_nil, List.nil_append, List.append_assoc]
  congr 1
  rw [show k * 5 + (0 + 1 + 1 + 1 + 1) - k * 5 = 4 by omega]
  simp [Ent.enc, Ent.lab]

/-- The row behind a label's four stores, and its sort. -/
theorem label_sort {w : World} {base B b cap : Nat} {cur : Array Value} {es : List Ent} {k : Nat} {room c s t n : Int} (hk : k < es.length) (hb : base ≤ b) (hbB : base ≤ B)
    (hB : w.heap[B]? = some (.cells #[.slice (some ⟨b, 0, none⟩) es.length cap, .int .i64 room] 70 (0, 0)))
    (hh : w.heap[b]? = some (.cells cur 35 (0, 0))) (hcap : es.length ≤ cap) (hm : cap ≤ maxLen) (hs : cur.size = cap * 5) (ht : cur.toList.take (es.length * 5) = encs es) (hsz : es.length < 1000000) :
    Calls Try.prog 29 #[.slice (some ⟨b, 0, none⟩) es.length cap] (w.setCells b (k * 5) [.int .i64 c, .int .i64 s, .int .i64 t, .int .i64 n]) fun e w' =>
      e = .returned (.tuple #[]) ∧ ∃ es', es'.Perm (es.set k ((es[k]).lab c s t n)) ∧ Sorted es' ∧ IsQ w' base B es' room ∧ Chg base [35, 70] w w' := by
  have hne : B ≠ b := by rintro rfl; rw [hB] at hh; cases hh
  have hcl : cur.toList.length = cap * 5 := by simpa using hs
  have h1 := blk_setCells b [.int .i64 c, .int .i64 s, .int .i64 t, .int .i64 n] (k * 5) w cur.toList 35 (by simpa using hh)
  have e1 := setL_eq [.int .i64 c, .int .i64 s, .int .i64 t, .int .i64 n] cur.toList (k * 5) (by rw [hcl]; simp; omega)
  have hl1 : (setL cur.toList (k * 5) [.int .i64 c, .int .i64 s, .int .i64 t, .int .i64 n]).length = cap * 5 := by rw [e1]; simp [hs]; omega
  have ht1 : (setL cur.toList (k * 5) [.int .i64 c, .int .i64 s, .int .i64 t, .int .i64 n]).take (es.length * 5) = encs (es.set k ((es[k]).lab c s t n)) := by
    rw [← encs_set es k hk, ← ht, setL_take]
  have hl : (es.set k ((es[k]).lab c s t n)).length = es.length := by simp
  have hc := sort_any base b cap (setL cur.toList (k * 5) [.int .i64 c, .int .i64 s, .int .i64 t, .int .i64 n]).toArray (es.set k ((es[k]).lab c s t n)) _ hb h1 (by rw [hl]; exact hcap) hm (by simpa using hl1) (by rw [hl]; simpa using ht1) (by rw [hl]; omega)
  rw [hl] at hc
  refine hc.mono ?_
  rintro e w' ⟨he, es', hl', hp, hsd, hr, hgr⟩
  have hB1 : (w.setCells b (k * 5) [.int .i64 c, .int .i64 s, .int .i64 t, .int .i64 n]).heap[B]? = some (.cells #[.slice (some ⟨b, 0, none⟩) es.length cap, .int .i64 room] 70 (0, 0)) := by
    rw [blk_setCells_other b B hne]; exact hB
  refine ⟨he, es', hp, hsd, ⟨_, hbB, ?_, by rw [← hl'] at hr; rw [hl'] at hr; exact hr⟩, (Chg.grown (grown_setCells _ _ _ _) hh (by simp) hb).trans (Chg.grown hgr h1 (by simp) hb)⟩
  rw [hgr.block B (Array.getElem?_eq_some_iff.1 hB1).1 (fun e => hne (Option.some.inj e))]
  exact hB1

end Go.Proofs.Ytkpjfmlhjpbdhaa
