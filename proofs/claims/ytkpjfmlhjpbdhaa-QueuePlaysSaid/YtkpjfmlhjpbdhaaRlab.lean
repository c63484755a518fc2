/- Contract: the reference gives an entry another label. -/
import Derived.Test.YtkpjfmlhjpbdhaaRput
namespace Go.Proofs.Ytkpjfmlhjpbdhaa
open Go.RowKit Go.Lib Go.Sort

theorem rlabel_none (R : Nat) (es : List Ent) (room g c s t n : Int) (w : World) (hq : IsR w R es room) (hg : idxT g es 0 = -1) : Calls Try.prog 13 #[.pointer (some ⟨R, 0, none⟩), .int .i64 g, labV c s t n] w fun e w' =>
    e = .returned (.int .i64 7) ∧ Below w.heap.size w w' := by
  have hcon := fun W (hW : Below w.heap.size w W) => rget_no R es room g W (hq.below hW) hg
  clear hq hg
  have HC := Lib.hid hcon; clear hcon
  go_enter Try.func13, Try.ntmps13
  go_wp2_with fail
  refine (HC.out _ ((Below.refl _ _).alloc (Nat.le_refl _) _)).mono ?_
  rintro e w' ⟨rfl, hE⟩
  have HE := Lib.hid hE; clear hE
  go_wp2
  go_ret
  have hb := ((Below.refl w.heap.size w).alloc (Nat.le_refl _) (.cells #[.int .i64 c, .int .i64 s, .int .i64 t, .int .i64 n] 33)).trans (HE.out.mono (by simp))
  exact ⟨rfl, hb.alloc hb.size _⟩

theorem rlabel_range (R : Nat) (es : List Ent) (room g c s t n : Int) (k : Nat) (w : World) (hk : k < es.length) (hq : IsR w R es room) (hg : idxT g es 0 = k) (hr : lright c s t n = false) : Calls Try.prog 13 #[.pointer (some ⟨R, 0, none⟩), .int .i64 g, labV c s t n] w fun e w' =>
    e = .returned (.int .i64 1) ∧ Below w.heap.size w w' := by
  have hcon := fun W (hW : Below w.heap.size w W) => rget_yes R es room g W k hk (hq.below hW) hg
  have hR := right23_any c s t n
  rw [hr] at hR
  clear hq hg hr
  have HC := Lib.hid hcon; clear hcon
  have HR := Lib.hid hR; clear hR
  go_enter Try.func13, Try.ntmps13
  go_wp2_with fail
  refine (HC.out _ ((Below.refl _ _).alloc (Nat.le_refl _) _)).mono ?_
  rintro e w1 ⟨rfl, hE⟩
  obtain ⟨hc, hf⟩ := bcell hE
  have x0 : w1.cell? ⟨w.heap.size, 0, none⟩ = some (.int .i64 c) := by rw [hc _ _ (by simp)]; simp
  have x1 : w1.cell? ⟨w.heap.size, 1, none⟩ = some (.int .i64 s) := by rw [hc _ _ (by simp)]; simp
  have x2 : w1.cell? ⟨w.heap.size, 2, none⟩ = some (.int .i64 t) := by rw [hc _ _ (by simp)]; simp
  have x3 : w1.cell? ⟨w.heap.size, 3, none⟩ = some (.int .i64 n) := by rw [hc _ _ (by simp)]; simp
  have hb1 := ((Below.refl w.heap.size w).alloc (Nat.le_refl _) (.cells #[.int .i64 c, .int .i64 s, .int .i64 t, .int .i64 n] 33)).trans (hE.mono (by simp))
  have hlt : w.heap.size < w1.heap.size := by have := hE.size; simp at this; omega
  have HB1 := Lib.hid hb1
  clear hc hf hE hb1
  go_wp2_with fail
  refine (HR.out _).mono ?_
  rintro e w2 ⟨rfl, hE2⟩
  have hb2 := (HB1.out.alloc HB1.out.size _).trans (hE2.mono (by have := HB1.out.size; simp; omega))
  have HB2 := Lib.hid hb2; clear hb2 hE2
  go_wp2
  go_ret
  exact ⟨rfl, HB2.out⟩

theorem IsR.lt {w : World} {R : Nat} {es : List Ent} {room : Int} (h : IsR w R es room) : R < w.heap.size := by
  obtain ⟨v, hh, _⟩ := h
  exact (Array.getElem?_eq_some_iff.1 hh).1

/-- cells that are written behind block R leave the reference's queue, if they are not its row's -/
theorem IsR.of_eq {w w' : World} {R : Nat} {es : List Ent} {room : Int} (h : IsR w R es room) (hx : ∀ (i : Nat) (c : Array Value) (f : Nat × Nat), w.heap[i]? = some (Obj.cells c 40 f) → w'.heap[i]? = w.heap[i]?) (hR : w'.heap[R]? = w.heap[R]?) : IsR w' R es room := by
  obtain ⟨v, hh, ho⟩ := h
  refine ⟨v, by rw [hR]; exact hh, ?_⟩
  obtain ⟨h1, h2 | ⟨g, cap, cur, hv, hg, hh2, r⟩⟩ := ho
  · exact ⟨h1, .inl h2⟩
  · exact ⟨h1, .inr ⟨g, cap, cur, hv, hg, by rw [hx g _ _ hh2]; exact hh2, r⟩⟩

theorem IsRN.set {w : World} {base R : Nat} {es : List Ent} {room : Int} (h : IsRN w base R es room) {p : Addr} (hp : p.block < base) (hR : p.block ≠ R) (u : Value) : IsRN (w.setCell p u) base R es room := by
  obtain ⟨v, hh, h1, h2 | ⟨g, cap, cur, hv, hg, hh2, r⟩⟩ := h
  · exact ⟨v, by rw [Below.heap_setCell _ _ _ _ hR.symm]; exact hh, h1, .inl h2⟩
  · exact ⟨v, by rw [Below.heap_setCell _ _ _ _ hR.symm]; exact hh, h1, .inr ⟨g, cap, cur, hv, hg, by rw [Below.heap_setCell _ _ _ _ (by omega)]; exact hh2, r⟩⟩
theorem IsRN.below {w w' : World} {base R : Nat} {es : List Ent} {room : Int} (h : IsRN w base R es room) (hb : Below w.heap.size w w') : IsRN w' base R es room := by
  obtain ⟨v, hh, hr⟩ := h
  exact ⟨v, below_cells hb hh, below_row hb hr⟩

set_option maxHeartbeats 1000000 in
theorem rlabel_ok (R : Nat) (es : List Ent) (room g c s t n : Int) (k : Nat) (w : World) (hk : k < es.length) (hsz : es.length < 1000000) (hq : IsR w R es room) (hg : idxT g es 0 = k) (hr : lright c s t n = true) : Calls Try.prog 13 #[.pointer (some ⟨R, 0, none⟩), .int .i64 g, labV c s t n] w fun e w' =>
    e = .returned (.int .i64 0) ∧ IsR w' R (ins ((es[k]).lab c s t n) (es.eraseIdx k)) room ∧ Only R w w' := by
  have hRl := hq.lt
  have hcon := fun W (hW : Below w.heap.size w W) => rget_yes R es room g W k hk (hq.below hW) hg
  have hT := fun W (hW : Below w.heap.size w W) => rtake_yes R es room g k W hk hsz (hq.below hW) hg
  have hgg : (es[k]).g = (es[k]).g := rfl
  generalize hx : es[k] = x at hcon hT ⊢
  obtain ⟨xc, xs, xt, xn, xg⟩ := x
  have hln : (es.eraseIdx k).length < 1000000 := by have := List.length_eraseIdx_le es k; omega
  generalize es.eraseIdx k = l at *
  have hR := right23_any c s t n
  rw [hr] at hR
  clear hq hg hr hgg
  have HX := Lib.hid hx; clear hx
  have HC := Lib.hid hcon; clear hcon
  have HR := Lib.hid hR; clear hR
  have HT := Lib.hid hT; clear hT
  go_enter Try.func13, Try.ntmps13
  go_wp2_with fail
  refine (HC.out _ ((Below.refl _ _).alloc (Nat.le_refl _) _)).mono ?_
  rintro e w1 ⟨rfl, hE⟩
  obtain ⟨hc, hf⟩ := bcell hE
  have x0 : w1.cell? ⟨w.heap.size, 0, none⟩ = some (.int .i64 c) := by rw [hc _ _ (by simp)]; simp
  have x1 : w1.cell? ⟨w.heap.size, 1, none⟩ = some (.int .i64 s) := by rw [hc _ _ (by simp)]; simp
  have x2 : w1.cell? ⟨w.heap.size, 2, none⟩ = some (.int .i64 t) := by rw [hc _ _ (by simp)]; simp
  have x3 : w1.cell? ⟨w.heap.size, 3, none⟩ = some (.int .i64 n) := by rw [hc _ _ (by simp)]; simp
  have hb1 := ((Below.refl w.heap.size w).alloc (Nat.le_refl _) (.cells #[.int .i64 c, .int .i64 s, .int .i64 t, .int .i64 n] 33)).trans (hE.mono (by simp))
  have hlt : w.heap.size < w1.heap.size := by have := hE.size; simp at this; omega
  have HB1 := Lib.hid (hb1.alloc hb1.size (.cells #[.int .i64 xc, .int .i64 xs, .int .i64 xt, .int .i64 xn, .int .i64 xg] 40))
  clear hc hf hE hb1
  go_wp2_with fail
  refine (HR.out _).mono ?_
  rintro e w2 ⟨rfl, hE2⟩
  have y0 := cell_below hE2 (cell_alloc x0)
  have y1 := cell_below hE2 (cell_alloc x1)
  have y2 := cell_below hE2 (cell_alloc x2)
  have y3 := cell_below hE2 (cell_alloc x3)
  have hh2 : w2.heap[w1.heap.size]? = some (.cells #[.int .i64 xc, .int .i64 xs, .int .i64 xt, .int .i64 xn, .int .i64 xg] 40 (0, 0)) := below_cells hE2 (heap_alloc_new _ _)
  have hlt2 : w1.heap.size < w2.heap.size := (Array.getElem?_eq_some_iff.1 hh2).1
  have hb2 := HB1.out.trans (hE2.mono (by simp; omega))
  have HH2 := Lib.hid hh2; clear hh2
  have HB2 := Lib.hid hb2; clear hb2 hE2 HB1 x0 x1 x2 x3
  go_wp2_with fail
  refine (HT.out _ HB2.out).mono ?_
  rintro e w3 ⟨rfl, hq3, hk3⟩
  have hO : Only R w2 w3 := hk3
  have z0 := hO.cell (by omega) y0
  have z1 := hO.cell (by omega) y1
  have z2 := hO.cell (by omega) y2
  have z3 := hO.cell (by omega) y3
  have hh3 : w3.heap[w1.heap.size]? = some (.cells #[.int .i64 xc, .int .i64 xs, .int .i64 xt, .int .i64 xn, .int .i64 xg] 40 (0, 0)) := hO.cells (by omega) HH2.out
  have u0 : w3.cell? ⟨w1.heap.size, 0, none⟩ = some (.int .i64 xc) := cell_in hh3 rfl
  have u1 : w3.cell? ⟨w1.heap.size, 1, none⟩ = some (.int .i64 xs) := cell_in hh3 rfl
  have u2 : w3.cell? ⟨w1.heap.size, 2, none⟩ = some (.int .i64 xt) := cell_in hh3 rfl
  have u3 : w3.cell? ⟨w1.heap.size, 3, none⟩ = some (.int .i64 xn) := cell_in hh3 rfl
  have u4 : w3.cell? ⟨w1.heap.size, 4, none⟩ = some (.int .i64 xg) := cell_in hh3 rfl
  have f0 : w3.frozen? ⟨w1.heap.size, 0, none⟩ = false := frozen_in hh3
  have f1 : w3.frozen? ⟨w1.heap.size, 1, none⟩ = false := frozen_in hh3
  have f2 : w3.frozen? ⟨w1.heap.size, 2, none⟩ = false := frozen_in hh3
  have f3 : w3.frozen? ⟨w1.heap.size, 3, none⟩ = false := frozen_in hh3
  have HO := Lib.hid hO
  have hq4 := fun (u v x y : Value) => ((((hq3.set (p := ⟨w1.heap.size, 0, none⟩) (by exact hlt2) (by exact (by omega : w1.heap.size ≠ R)) u).set (p := ⟨w1.heap.size, 1, none⟩) (by exact hlt2) (by exact (by omega : w1.heap.size ≠ R)) v).set (p := ⟨w1.heap.size, 2, none⟩) (by exact hlt2) (by exact (by omega : w1.heap.size ≠ R)) x).set (p := ⟨w1.heap.size, 3, none⟩) (by exact hlt2) (by exact (by omega : w1.heap.size ≠ R)) y).isR
  have HQ4 := Lib.hid hq4; clear hq4 hq3 hh3 HH2 y0 y1 y2 y3 hO hk3
  have m1 : ¬ w1.heap.size = w.heap.size := by omega
  go_wp2_with fail
  refine (rlay_any R l room ⟨c, s, t, n, xg⟩ _ (HQ4.out _ _ _ _) hln).mono ?_
  rintro e w4 ⟨rfl, hq5, hk5⟩
  have HF := Lib.hid (And.intro hq5 hk5); clear hq5 hk5
  go_wp2
  go_ret
  have hO4 : Only R w2 w3 := HO.out
  have ho2 : Only R w w3 := Only.after HB2.out hO4
  exact ⟨rfl, HF.out.1, ((((ho2.set_new (p := ⟨w1.heap.size, 0, none⟩) (by exact Nat.le_of_lt hlt) _).set_new (p := ⟨w1.heap.size, 1, none⟩) (by exact Nat.le_of_lt hlt) _).set_new (p := ⟨w1.heap.size, 2, none⟩) (by exact Nat.le_of_lt hlt) _).set_new (p := ⟨w1.heap.size, 3, none⟩) (by exact Nat.le_of_lt hlt) _).trans HF.out.2⟩

end Go.Proofs.Ytkpjfmlhjpbdhaa
