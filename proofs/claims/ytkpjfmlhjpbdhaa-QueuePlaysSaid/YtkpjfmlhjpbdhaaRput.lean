/- Contracts: the reference lays an entry in, and gives one another label. -/
import Derived.Test.YtkpjfmlhjpbdhaaRtake
namespace Go.Proofs.Ytkpjfmlhjpbdhaa
open Go.RowKit Go.Lib Go.Sort

theorem rput_range (R : Nat) (x : Ent) (w : World) (hr : lright x.c x.s x.t x.n = false) : Calls Try.prog 10 #[.pointer (some ⟨R, 0, none⟩), entVal x] w fun e w' =>
    e = .returned (.int .i64 1) ∧ Below w.heap.size w w' := by
  obtain ⟨xc, xs, xt, xn, xg⟩ := x
  have hR := right23_any xc xs xt xn
  simp only at hr
  rw [hr] at hR
  have HR := Lib.hid hR; clear hR hr
  go_enter Try.func10, Try.ntmps10
  go_wp2_with fail
  refine (HR.out _).mono ?_
  rintro e w' ⟨rfl, hE⟩
  have HE := Lib.hid (((Below.refl w.heap.size w).alloc (Nat.le_refl _) (.cells #[.int .i64 xc, .int .i64 xs, .int .i64 xt, .int .i64 xn, .int .i64 xg] 40)).trans (hE.mono (by simp))); clear hE
  go_wp2
  go_ret
  exact ⟨rfl, HE.out⟩

theorem rput_twice (R : Nat) (es : List Ent) (room : Int) (x : Ent) (w : World) (hq : IsR w R es room) (hr : lright x.c x.s x.t x.n = true) (hi : 0 ≤ idxT x.g es 0) : Calls Try.prog 10 #[.pointer (some ⟨R, 0, none⟩), entVal x] w fun e w' =>
    e = .returned (.int .i64 13) ∧ Below w.heap.size w w' := by
  obtain ⟨xc, xs, xt, xn, xg⟩ := x
  have hR := right23_any xc xs xt xn
  simp only at hr hi
  rw [hr] at hR
  have hA := fun W (hW : Below w.heap.size w W) => rfind_any R es room xg W (hq.below hW)
  clear hq
  generalize idxT xg es 0 = k at *
  have HR := Lib.hid hR; clear hR hr
  have HA := Lib.hid hA; clear hA
  go_enter Try.func10, Try.ntmps10
  go_wp2_with fail
  refine (HR.out _).mono ?_
  rintro e w1 ⟨rfl, hE⟩
  obtain ⟨hc, hf⟩ := bcell hE
  have x4 : w1.cell? ⟨w.heap.size, 4, none⟩ = some (.int .i64 xg) := by rw [hc _ _ (by simp)]; simp
  have hb1 := ((Below.refl w.heap.size w).alloc (Nat.le_refl _) (.cells #[.int .i64 xc, .int .i64 xs, .int .i64 xt, .int .i64 xn, .int .i64 xg] 40)).trans (hE.mono (by simp))
  clear hc hf hE
  go_wp2_with fail
  refine (HA.out _ hb1).mono ?_
  rintro e w2 ⟨rfl, hE2⟩
  have HE2 := Lib.hid (hb1.trans (hE2.mono hb1.size)); clear hE2 hb1
  go_wp2
  go_ret
  exact ⟨rfl, HE2.out⟩

theorem rput_full (R : Nat) (es : List Ent) (room : Int) (x : Ent) (w : World) (hq : IsR w R es room) (hr : lright x.c x.s x.t x.n = true) (hi : idxT x.g es 0 = -1) (hl : room ≤ es.length) : Calls Try.prog 10 #[.pointer (some ⟨R, 0, none⟩), entVal x] w fun e w' =>
    e = .returned ((.int .i64 6)) ∧ Below w.heap.size w w' := by
  obtain ⟨xc, xs, xt, xn, xg⟩ := x
  have hR := right23_any xc xs xt xn
  simp only at hr hi
  rw [hr] at hR
  have hA := fun W (hW : Below w.heap.size w W) => rfind_any R es room xg W (hq.below hW)
  rw [hi] at hA
  have hS : ∀ W, Below w.heap.size w W → ∃ a c, W.cell? ⟨R, 0, none⟩ = some (.slice a es.length c) ∧ W.cell? ⟨R, 1, none⟩ = some (.int .i64 room) := by
    intro W hW
    obtain ⟨v, hh, hrow⟩ := hq.below hW
    obtain ⟨a, c, rfl⟩ := rrow_len hrow
    exact ⟨a, c, cell_in hh rfl, cell_in hh rfl⟩
  generalize es.length = n at *
  have HS := Lib.hid hS; clear hS hq hi
  have HR := Lib.hid hR; clear hR hr
  have HA := Lib.hid hA; clear hA
  go_enter Try.func10, Try.ntmps10
  go_wp2_with fail
  refine (HR.out _).mono ?_
  rintro e w1 ⟨rfl, hE⟩
  obtain ⟨hc, hf⟩ := bcell hE
  have x4 : w1.cell? ⟨w.heap.size, 4, none⟩ = some (.int .i64 xg) := by rw [hc _ _ (by simp)]; simp
  have hb1 := ((Below.refl w.heap.size w).alloc (Nat.le_refl _) (.cells #[.int .i64 xc, .int .i64 xs, .int .i64 xt, .int .i64 xn, .int .i64 xg] 40)).trans (hE.mono (by simp))
  clear hc hf hE
  go_wp2_with fail
  refine (HA.out _ hb1).mono ?_
  rintro e w2 ⟨rfl, hE2⟩
  have HE2 := Lib.hid (hb1.trans (hE2.mono hb1.size)); clear hE2 hb1
  obtain ⟨a, c, s0, s1⟩ := HS.out _ HE2.out
  go_wp2
  go_quiet (fail)
  go_wp2
  go_ret
  exact ⟨rfl, below_drewN HE2.out _⟩

theorem rput_ok (R : Nat) (es : List Ent) (room : Int) (x : Ent) (w : World) (hq : IsR w R es room) (hr : lright x.c x.s x.t x.n = true) (hi : idxT x.g es 0 = -1) (hl : (es.length : Int) < room) (hn : es.length < 1000000) : Calls Try.prog 10 #[.pointer (some ⟨R, 0, none⟩), entVal x] w fun e w' =>
    e = .returned (.int .i64 0) ∧ IsR w' R (ins x es) room ∧ Only R w w' := by
  obtain ⟨xc, xs, xt, xn, xg⟩ := x
  have hR := right23_any xc xs xt xn
  simp only at hr hi
  rw [hr] at hR
  have hA := fun W (hW : Below w.heap.size w W) => rfind_any R es room xg W (hq.below hW)
  rw [hi] at hA
  have hS : ∀ W, Below w.heap.size w W → ∃ a c, W.cell? ⟨R, 0, none⟩ = some (.slice a es.length c) ∧ W.cell? ⟨R, 1, none⟩ = some (.int .i64 room) := by
    intro W hW
    obtain ⟨v, hh, hrow⟩ := hq.below hW
    obtain ⟨a, c, rfl⟩ := rrow_len hrow
    exact ⟨a, c, cell_in hh rfl, cell_in hh rfl⟩
  have hL := fun W (hW : Below w.heap.size w W) => rlay_any R es room ⟨xc, xs, xt, xn, xg⟩ W (hq.below hW) hn
  have HLY := Lib.hid hL; clear hL
  generalize es.length = n at *
  have HS := Lib.hid hS; clear hS hq hi
  have HR := Lib.hid hR; clear hR hr
  have HA := Lib.hid hA; clear hA
  go_enter Try.func10, Try.ntmps10
  go_wp2_with fail
  refine (HR.out _).mono ?_
  rintro e w1 ⟨rfl, hE⟩
  obtain ⟨hc, hf⟩ := bcell hE
  have x4 : w1.cell? ⟨w.heap.size, 4, none⟩ = some (.int .i64 xg) := by rw [hc _ _ (by simp)]; simp
  have hb1 := ((Below.refl w.heap.size w).alloc (Nat.le_refl _) (.cells #[.int .i64 xc, .int .i64 xs, .int .i64 xt, .int .i64 xn, .int .i64 xg] 40)).trans (hE.mono (by simp))
  have x0 : w1.cell? ⟨w.heap.size, 0, none⟩ = some (.int .i64 xc) := by rw [hc _ _ (by simp)]; simp
  have x1 : w1.cell? ⟨w.heap.size, 1, none⟩ = some (.int .i64 xs) := by rw [hc _ _ (by simp)]; simp
  have x2 : w1.cell? ⟨w.heap.size, 2, none⟩ = some (.int .i64 xt) := by rw [hc _ _ (by simp)]; simp
  have x3 : w1.cell? ⟨w.heap.size, 3, none⟩ = some (.int .i64 xn) := by rw [hc _ _ (by simp)]; simp
  clear hc hf hE
  go_wp2_with fail
  refine (HA.out _ hb1).mono ?_
  rintro e w2 ⟨rfl, hE2⟩
  have y0 := cell_below hE2 x0
  have y1 := cell_below hE2 x1
  have y2 := cell_below hE2 x2
  have y3 := cell_below hE2 x3
  have y4 := cell_below hE2 x4
  have HE2 := Lib.hid (hb1.trans (hE2.mono hb1.size)); clear hE2 hb1
  obtain ⟨a, c, s0, s1⟩ := HS.out _ HE2.out
  go_wp2
  go_quiet (fail)
  go_wp2_with fail
  refine (HLY.out _ (below_drewN HE2.out _)).mono ?_
  rintro e w3 ⟨rfl, hq3, hk3⟩
  have HF := Lib.hid (And.intro hq3 hk3); clear hq3 hk3
  go_wp2
  go_ret
  exact ⟨rfl, HF.out.1, Only.after (below_drewN HE2.out _) HF.out.2⟩

end Go.Proofs.Ytkpjfmlhjpbdhaa
