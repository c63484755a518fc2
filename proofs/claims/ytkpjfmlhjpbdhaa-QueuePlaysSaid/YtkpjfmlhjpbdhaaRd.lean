/- Contracts: the reference's first entry; where an entry is laid in. -/
import Derived.Test.YtkpjfmlhjpbdhaaRc
namespace Go.Proofs.Ytkpjfmlhjpbdhaa
open Go.RowKit Go.Lib Go.Sort

theorem rhead_no (B : Nat) (room : Int) (w : World) (hq : IsR w B [] room) : Calls Try.prog 14 #[.pointer (some ⟨B, 0, none⟩)] w fun e w' =>
    e = .returned (.tuple #[entVal ⟨0, 0, 0, 0, 0⟩, .bool false]) ∧ Below w.heap.size w w' := by
  obtain ⟨v, hh, hr⟩ := hq
  obtain ⟨a, cap, rfl⟩ := rrow_len hr
  have hB : w.cell? ⟨B, 0, none⟩ = some (.slice a 0 cap) := cell_in hh rfl
  have hBl := cell_lt hB
  clear hr hh
  go_enter Try.func14, Try.ntmps14
  go_wp2
  have hb0 := ((Below.refl w.heap.size w).alloc (Nat.le_refl _) (.cells #[.int .i64 0, .int .i64 0, .int .i64 0, .int .i64 0, .int .i64 0] 40))
  exact bodyPost_ret (v := .tuple #[entVal ⟨0, 0, 0, 0, 0⟩, .bool false]) (by simp [results, Try.results14, go_sem]) rfl ⟨rfl, hb0⟩

theorem rhead_yes (B : Nat) (x : Ent) (l : List Ent) (room : Int) (w : World) (hq : IsR w B (x :: l) room) : Calls Try.prog 14 #[.pointer (some ⟨B, 0, none⟩)] w fun e w' =>
    e = .returned (.tuple #[entVal x, .bool true]) ∧ Below w.heap.size w w' := by
  obtain ⟨v, hh, hr⟩ := hq
  obtain ⟨b, cap, rfl, hlt, hcap, hm, c0, c1, c2, c3, c4⟩ := rrow_at hr 0 (by simp)
  have hB : w.cell? ⟨B, 0, none⟩ = some (.slice (some ⟨b, 0, none⟩) (x :: l).length cap) := cell_in hh rfl
  have hBl := cell_lt hB
  clear hh hr
  unfold maxLen at hm
  obtain ⟨xc, xs, xt, xn, xg⟩ := x
  simp only [List.getElem_cons_zero, Nat.zero_mul, Nat.zero_add, List.length_cons] at c0 c1 c2 c3 c4 hB hcap
  generalize l.length = n at *
  have k0 : (((n + 1 : Nat) : Int) == 0) = false := by simp; omega
  have k1 : (0 : Int) < ((n + 1 : Nat) : Int) := by omega
  have z3 : ¬ b = w.heap.size := by omega
  have z4 : ¬ B = w.heap.size := by omega
  go_enter Try.func14, Try.ntmps14
  go_wp2
  have hb0 := ((Below.refl w.heap.size w).alloc (Nat.le_refl _) (.cells #[.int .i64 xc, .int .i64 xs, .int .i64 xt, .int .i64 xn, .int .i64 xg] 40))
  exact bodyPost_ret (v := .tuple #[entVal ⟨xc, xs, xt, xn, xg⟩, .bool true]) (by simp [results, Try.results14, go_sem]) rfl ⟨rfl, hb0⟩

end Go.Proofs.Ytkpjfmlhjpbdhaa
