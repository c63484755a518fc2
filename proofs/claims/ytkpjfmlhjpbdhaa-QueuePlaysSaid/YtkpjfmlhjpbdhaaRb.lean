/- Contracts: which entry stands ahead in the reference; its queue in memory. -/
import Derived.Test.YtkpjfmlhjpbdhaaRa
namespace Go.Proofs.Ytkpjfmlhjpbdhaa
open Go.RowKit Go.Lib Go.Sort

open Classical in
theorem ahead_any (x y : Ent) (w : World) : Calls Try.prog 43 #[entVal x, entVal y] w fun e w' =>
    e = .returned (.bool (decide (ltE x y))) ∧ Below w.heap.size w w' := by
  obtain ⟨a0, a1, a2, a3, a4⟩ := x
  obtain ⟨b0, b1, b2, b3, b4⟩ := y
  have hB := fun W => before23_any a0 a1 a2 a3 b0 b1 b2 b3 W
  have HV : ∀ v : Bool, (v = true ↔ ltE ⟨a0, a1, a2, a3, a4⟩ ⟨b0, b1, b2, b3, b4⟩) → v = decide (ltE ⟨a0, a1, a2, a3, a4⟩ ⟨b0, b1, b2, b3, b4⟩) := fun v hv => by
    rw [Bool.eq_iff_iff, hv, decide_eq_true_iff]
  have HVV := Lib.hid HV; clear HV
  by_cases hlt : ltL a0 a1 a2 a3 b0 b1 b2 b3
  · have hd : decide (ltL a0 a1 a2 a3 b0 b1 b2 b3) = true := decide_eq_true hlt
    simp only [hd] at hB
    have hr := HVV.out true (by simp [ltE, hlt])
    rw [← hr]
    have HBB := Lib.hid hB; clear hB hr HVV hd hlt
    go_enter Try.func43, Try.ntmps43
    go_wp2_with fail
    refine (HBB.out _).mono ?_
    rintro e w1 ⟨rfl, hb⟩
    have HB := Lib.hid ((((Below.refl w.heap.size w).alloc (Nat.le_refl _) (.cells #[.int .i64 a0, .int .i64 a1, .int .i64 a2, .int .i64 a3, .int .i64 a4] 40 (0, 0))).alloc (by simp) (.cells #[.int .i64 b0, .int .i64 b1, .int .i64 b2, .int .i64 b3, .int .i64 b4] 40 (0, 0))).trans (hb.mono (by simp; omega))); clear hb
    go_wp2
    go_ret
    exact ⟨rfl, HB.out⟩
  · have hd : decide (ltL a0 a1 a2 a3 b0 b1 b2 b3) = false := decide_eq_false hlt
    simp only [hd] at hB
    have HBB := Lib.hid hB; clear hB hd
    rcases (show (a0 = b0 ∧ a1 = b1 ∧ a2 = b2 ∧ a3 = b3) ∨ ¬ (a0 = b0 ∧ a1 = b1 ∧ a2 = b2 ∧ a3 = b3) by omega) with ⟨rfl, rfl, rfl, rfl⟩ | hne
    · have hr := HVV.out (decide (a4 < b4)) (by simp [ltE, hlt])
      rw [← hr]
      clear hr HVV hlt
      go_enter Try.func43, Try.ntmps43
      go_wp2_with fail
      refine (HBB.out _).mono ?_
      rintro e w1 ⟨rfl, hb⟩
      obtain ⟨hc, hf⟩ := bcell hb
      have c0 : w1.cell? ⟨w.heap.size, 0, none⟩ = some (.int .i64 a0) := by rw [hc _ _ (by simp; omega)]; simp
      have c1 : w1.cell? ⟨w.heap.size, 1, none⟩ = some (.int .i64 a1) := by rw [hc _ _ (by simp; omega)]; simp
      have c2 : w1.cell? ⟨w.heap.size, 2, none⟩ = some (.int .i64 a2) := by rw [hc _ _ (by simp; omega)]; simp
      have c3 : w1.cell? ⟨w.heap.size, 3, none⟩ = some (.int .i64 a3) := by rw [hc _ _ (by simp; omega)]; simp
      have c4 : w1.cell? ⟨w.heap.size, 4, none⟩ = some (.int .i64 a4) := by rw [hc _ _ (by simp; omega)]; simp
      have d0 : w1.cell? ⟨w.heap.size + 1, 0, none⟩ = some (.int .i64 a0) := by rw [hc _ _ (by simp)]; simp
      have d1 : w1.cell? ⟨w.heap.size + 1, 1, none⟩ = some (.int .i64 a1) := by rw [hc _ _ (by simp)]; simp
      have d2 : w1.cell? ⟨w.heap.size + 1, 2, none⟩ = some (.int .i64 a2) := by rw [hc _ _ (by simp)]; simp
      have d3 : w1.cell? ⟨w.heap.size + 1, 3, none⟩ = some (.int .i64 a3) := by rw [hc _ _ (by simp)]; simp
      have d4 : w1.cell? ⟨w.heap.size + 1, 4, none⟩ = some (.int .i64 b4) := by rw [hc _ _ (by simp)]; simp
      have HB := Lib.hid ((((Below.refl w.heap.size w).alloc (Nat.le_refl _) (.cells #[.int .i64 a0, .int .i64 a1, .int .i64 a2, .int .i64 a3, .int .i64 a4] 40 (0, 0))).alloc (by simp) (.cells #[.int .i64 a0, .int .i64 a1, .int .i64 a2, .int .i64 a3, .int .i64 b4] 40 (0, 0))).trans (hb.mono (by simp; omega))); clear hb hc hf
      go_wp2
      go_ret
      exact ⟨rfl, HB.out⟩
    · have hr := HVV.out false (by
        simp only [Bool.false_eq_true, false_iff, ltE]
        rintro (h | h)
        · exact hlt h
        · exact hne ⟨h.1, h.2.1, h.2.2.1, h.2.2.2.1⟩)
      rw [← hr]
      clear hr HVV hlt
      go_enter Try.func43, Try.ntmps43
      go_wp2_with fail
      refine (HBB.out _).mono ?_
      rintro e w1 ⟨rfl, hb⟩
      obtain ⟨hc, hf⟩ := bcell hb
      have c0 : w1.cell? ⟨w.heap.size, 0, none⟩ = some (.int .i64 a0) := by rw [hc _ _ (by simp; omega)]; simp
      have c1 : w1.cell? ⟨w.heap.size, 1, none⟩ = some (.int .i64 a1) := by rw [hc _ _ (by simp; omega)]; simp
      have c2 : w1.cell? ⟨w.heap.size, 2, none⟩ = some (.int .i64 a2) := by rw [hc _ _ (by simp; omega)]; simp
      have c3 : w1.cell? ⟨w.heap.size, 3, none⟩ = some (.int .i64 a3) := by rw [hc _ _ (by simp; omega)]; simp
      have d0 : w1.cell? ⟨w.heap.size + 1, 0, none⟩ = some (.int .i64 b0) := by rw [hc _ _ (by simp)]; simp
      have d1 : w1.cell? ⟨w.heap.size + 1, 1, none⟩ = some (.int .i64 b1) := by rw [hc _ _ (by simp)]; simp
      have d2 : w1.cell? ⟨w.heap.size + 1, 2, none⟩ = some (.int .i64 b2) := by rw [hc _ _ (by simp)]; simp
      have d3 : w1.cell? ⟨w.heap.size + 1, 3, none⟩ = some (.int .i64 b3) := by rw [hc _ _ (by simp)]; simp
      have HB := Lib.hid ((((Below.refl w.heap.size w).alloc (Nat.le_refl _) (.cells #[.int .i64 a0, .int .i64 a1, .int .i64 a2, .int .i64 a3, .int .i64 a4] 40 (0, 0))).alloc (by simp) (.cells #[.int .i64 b0, .int .i64 b1, .int .i64 b2, .int .i64 b3, .int .i64 b4] 40 (0, 0))).trans (hb.mono (by simp; omega))); clear hb hc hf
      go_wp2
      all_goals first
        | (go_ret; exact ⟨rfl, HB.out⟩)
        | (exfalso; omega)

end Go.Proofs.Ytkpjfmlhjpbdhaa
