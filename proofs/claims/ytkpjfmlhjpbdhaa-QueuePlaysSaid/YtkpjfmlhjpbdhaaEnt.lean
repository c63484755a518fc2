/- Contracts: which of two entries of a queue stands ahead. -/
import Derived.Test.YtkpjfmlhjpbdhaaLab2
namespace Go.Proofs.Ytkpjfmlhjpbdhaa
open Go.RowKit

abbrev labV (a0 a1 a2 a3 : Int) : Value := .agg #[.int .i64 a0, .int .i64 a1, .int .i64 a2, .int .i64 a3]
abbrev entV (a0 a1 a2 a3 t : Int) : Value := .agg #[.int .i64 a0, .int .i64 a1, .int .i64 a2, .int .i64 a3, .int .i64 t]

theorem before_any (a0 a1 a2 a3 b0 b1 b2 b3 : Int) (w : World) : Calls Try.prog 51 #[labV a0 a1 a2 a3, labV b0 b1 b2 b3] w fun e w' =>
    e = .returned (.bool (decide (lexI [a0, a1, a2, a3] [b0, b1, b2, b3] < 0))) ∧ Ext w w' := by
  go_enter Try.func51, Try.ntmps51
  go_wp2_with (go_at_call 66; refine (ccompare_any _ _ _ _ _ _ _ _ _).mono ?_; rintro e w' ⟨rfl, hE⟩)
  go_ret
  exact ⟨rfl, (((Ext.refl _).alloc _).alloc _).trans hE⟩

/-- which of two entries stands ahead: below 0, the first -/
def cmpE (a0 a1 a2 a3 at_ b0 b1 b2 b3 bt : Int) : Int :=
  if lexI [a0, a1, a2, a3] [b0, b1, b2, b3] < 0 then -1 else if lexI [b0, b1, b2, b3] [a0, a1, a2, a3] < 0 then 1 else cmpI at_ bt

set_option maxHeartbeats 1000000 in
theorem qcompare_any (a0 a1 a2 a3 at_ b0 b1 b2 b3 bt : Int) (w : World) : Calls Try.prog 42 #[entV a0 a1 a2 a3 at_, entV b0 b1 b2 b3 bt] w fun e w' =>
    e = .returned (.int .i64 (cmpE a0 a1 a2 a3 at_ b0 b1 b2 b3 bt)) ∧ Ext w w' := by
  have hb1 := before_any a0 a1 a2 a3 b0 b1 b2 b3
  have hb2 := before_any b0 b1 b2 b3 a0 a1 a2 a3
  have hdef : cmpE a0 a1 a2 a3 at_ b0 b1 b2 b3 bt = if lexI [a0, a1, a2, a3] [b0, b1, b2, b3] < 0 then -1 else if lexI [b0, b1, b2, b3] [a0, a1, a2, a3] < 0 then 1 else cmpI at_ bt := rfl
  generalize cmpE a0 a1 a2 a3 at_ b0 b1 b2 b3 bt = r at *
  generalize lexI [a0, a1, a2, a3] [b0, b1, b2, b3] = x at *
  generalize lexI [b0, b1, b2, b3] [a0, a1, a2, a3] = y at *
  have HD := Lib.hid hdef; clear hdef
  have H1 := Lib.hid hb1; clear hb1
  have H2 := Lib.hid hb2; clear hb2
  by_cases h1 : x < 0
  · have d1 : decide (x < 0) = true := by simp [h1]
    have F1 := Lib.hid h1; clear h1
    go_enter Try.func42, Try.ntmps42
    go_wp2_with fail
    refine (H1.out _).mono ?_
    rintro e w' ⟨rfl, hE⟩
    have HE := Lib.hid hE; clear hE
    go_wp2
    go_ret
    exact ⟨ret_int (by rw [HD.out, if_pos F1.out]), (((Ext.refl _).alloc _).alloc _).trans HE.out⟩
  · have d1 : decide (x < 0) = false := by simp [h1]
    have F1 := Lib.hid h1; clear h1
    by_cases h2 : y < 0
    · have d2 : decide (y < 0) = true := by simp [h2]
      have F2 := Lib.hid h2; clear h2
      go_enter Try.func42, Try.ntmps42
      go_wp2_with fail
      refine (H1.out _).mono ?_
      rintro e w' ⟨rfl, hE⟩
      obtain ⟨hc, hf⟩ := bcell hE.below
      have HE := Lib.hid hE; clear hE
      go_wp2_with fail
      refine (H2.out _).mono ?_
      rintro e w2 ⟨rfl, hE2⟩
      have HE2 := Lib.hid hE2; clear hE2
      go_wp2
      go_ret
      have f1 := F1.out
      exact ⟨ret_int (by rw [HD.out, if_neg (by omega), if_pos F2.out]), ((((Ext.refl _).alloc _).alloc _).trans HE.out).trans HE2.out⟩
    · have d2 : decide (y < 0) = false := by simp [h2]
      have F2 := Lib.hid h2; clear h2
      go_enter Try.func42, Try.ntmps42
      go_wp2_with fail
      refine (H1.out _).mono ?_
      rintro e w' ⟨rfl, hE⟩
      obtain ⟨hc, hf⟩ := bcell hE.below
      have hz := hE.size
      have HE := Lib.hid hE; clear hE
      go_wp2_with fail
      refine (H2.out _).mono ?_
      rintro e w2 ⟨rfl, hE2⟩
      obtain ⟨hc2, hf2⟩ := bcell hE2.below
      have HE2 := Lib.hid hE2; clear hE2
      simp at hz
      have z1 : w.heap.size < w'.heap.size := by omega
      have z2 : w.heap.size + 1 < w'.heap.size := by omega
      go_wp2_with (go_at_call 52; refine (cmp_any _ _ _).mono ?_; rintro e w3 ⟨rfl, rfl⟩)
      go_ret
      have f1 := F1.out
      have f2 := F2.out
      exact ⟨ret_int (by rw [HD.out, if_neg (by omega), if_neg (by omega)]), ((((Ext.refl _).alloc _).alloc _).trans HE.out).trans HE2.out⟩

end Go.Proofs.Ytkpjfmlhjpbdhaa
