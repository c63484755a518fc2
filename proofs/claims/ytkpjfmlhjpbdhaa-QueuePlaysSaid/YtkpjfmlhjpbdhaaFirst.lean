/- Contract: the first label, or one that can be. -/
import Derived.Test.YtkpjfmlhjpbdhaaLaw
namespace Go.Proofs.Ytkpjfmlhjpbdhaa
open Go.RowKit Go.Lib

theorem part_right (c s t n : Int) : lright (partI c 3 + 1) (partI s 256) (partI t 2048) (partI n 32) = true := by
  have p0 := partI_bd c 3 (by decide)
  have p1 := partI_bd s 256 (by decide)
  have p2 := partI_bd t 2048 (by decide)
  have p3 := partI_bd n 32 (by decide)
  show decide _ = true
  rw [decide_eq_true_eq]
  omega

theorem first_any (a : Option Addr) (len cap : Nat) (w : World)
    (hrow : ∀ k, k < len → ∃ b off c s t n, a = some ⟨b, off, none⟩ ∧ w.cell? ⟨b, off + k * 4, none⟩ = some (.int .i64 c) ∧ w.cell? ⟨b, off + k * 4 + 1, none⟩ = some (.int .i64 s) ∧ w.cell? ⟨b, off + k * 4 + 2, none⟩ = some (.int .i64 t) ∧ w.cell? ⟨b, off + k * 4 + 3, none⟩ = some (.int .i64 n)) :
    Calls Try.prog 18 #[.slice a len cap] w fun e w' => (∃ c s t n, e = .returned (labV c s t n) ∧ lright c s t n = true) ∧ Below w.heap.size w w' := by
  by_cases h0 : len = 0
  · subst h0
    clear hrow
    go_enter Try.func18, Try.ntmps18
    go_wp2
    exact bodyPost_ret (v := labV 1 0 0 0) (by simp [results, Try.results18, go_sem]) rfl ⟨⟨1, 0, 0, 0, rfl, by decide⟩, (Below.refl _ _).alloc (Nat.le_refl _) _⟩
  · obtain ⟨b, off, c, s, t, n, rfl, c0, c1, c2, c3⟩ := hrow 0 (by omega)
    have hR := part_right c s t n
    rw [Nat.zero_mul, Nat.add_zero] at c0 c1 c2 c3
    have HR := Lib.hid hR; clear hR hrow
    have zb := cell_lt c0
    have k0 : ((len : Int) == 0) = false := by simp; omega
    have k1 : (0 : Int) < (len : Int) := by omega
    go_enter Try.func18, Try.ntmps18
    go_wp2_with fail
    refine (llabel_any c s t n _).mono ?_
    rintro e w1 ⟨rfl, hE⟩
    generalize partI c 3 + 1 = x0 at *
    generalize partI s 256 = x1 at *
    generalize partI t 2048 = x2 at *
    generalize partI n 32 = x3 at *
    obtain ⟨hc, hf⟩ := bcell hE
    have y0 : ∀ i, i < 4 → w1.cell? ⟨w.heap.size, i, none⟩ = some (.int .i64 0) := by
      intro i hi
      rw [hc _ _ (by simp)]
      match i, hi with
      | 0, _ => simp
      | 1, _ => simp
      | 2, _ => simp
      | 3, _ => simp
    have z0 := y0 0 (by omega)
    have z1 := y0 1 (by omega)
    have z2 := y0 2 (by omega)
    have z3 := y0 3 (by omega)
    have f : ∀ i, w1.frozen? ⟨w.heap.size, i, none⟩ = false := fun i => by rw [hf _ _ (by simp)]; exact frozen_in (heap_alloc_new _ _)
    have f0 := f 0
    have f1 := f 1
    have f2 := f 2
    have f3 := f 3
    clear y0 f hc hf
    have hb := ((Below.refl w.heap.size w).alloc (Nat.le_refl _) (.cells #[.int .i64 0, .int .i64 0, .int .i64 0, .int .i64 0] 33 (0, 0))).trans (hE.mono (by simp))
    have HB := Lib.hid hb; clear hb hE
    go_wp2
    exact bodyPost_ret (v := labV x0 x1 x2 x3) (by simp [results, Try.results18, go_sem, *]) rfl ⟨⟨x0, x1, x2, x3, rfl, HR.out⟩, (((HB.out.setCell (Nat.le_refl _) _).setCell (Nat.le_refl _) _).setCell (Nat.le_refl _) _).setCell (Nat.le_refl _) _⟩

end Go.Proofs.Ytkpjfmlhjpbdhaa
