/- Contracts: labels that can be; the place of a tag. -/
import Derived.Test.YtkpjfmlhjpbdhaaEnt
import Derived.Test.YtkpjfmlhjpbdhaaShelfP
namespace Go.Proofs.Ytkpjfmlhjpbdhaa
open Go.RowKit Go.Lib Go.Sort

/-- can a label be? -/
def lright (c s t n : Int) : Bool := decide (1 ≤ c ∧ c ≤ 3 ∧ 0 ≤ s ∧ s ≤ 255 ∧ 0 ≤ t ∧ t ≤ 2047 ∧ 0 ≤ n ∧ n ≤ 31)

theorem cright_any (c s t n : Int) (w : World) : Calls Try.prog 27 #[labV c s t n] w fun e w' =>
    e = .returned (.bool (lright c s t n)) ∧ Ext w w' := by
  by_cases e1 : c = 1
  · have h1 : (c == 1) = true := by simp [e1]
    go_enter Try.func27, Try.ntmps27
    go_wp2
    all_goals
      go_ret
      exact ⟨ret_bool (by rw [Bool.eq_iff_iff]; simp [lright]; omega), (Ext.refl _).alloc _⟩
  · by_cases e2 : c = 2
    · have h1 : (c == 1) = false := by simp [e1]
      have h2 : (c == 2) = true := by simp [e2]
      go_enter Try.func27, Try.ntmps27
      go_wp2
      all_goals
        go_ret
        exact ⟨ret_bool (by rw [Bool.eq_iff_iff]; simp [lright]; omega), (Ext.refl _).alloc _⟩
    · by_cases e3 : c = 3
      · have h1 : (c == 1) = false := by simp [e1]
        have h2 : (c == 2) = false := by simp [e2]
        have h3 : (c == 3) = true := by simp [e3]
        go_enter Try.func27, Try.ntmps27
        go_wp2
        all_goals
          go_ret
          exact ⟨ret_bool (by rw [Bool.eq_iff_iff]; simp [lright]; omega), (Ext.refl _).alloc _⟩
      · have h1 : (c == 1) = false := by simp [e1]
        have h2 : (c == 2) = false := by simp [e2]
        have h3 : (c == 3) = false := by simp [e3]
        go_enter Try.func27, Try.ntmps27
        go_wp2
        all_goals
          go_ret
          exact ⟨ret_bool (by rw [Bool.eq_iff_iff]; simp [lright]; omega), (Ext.refl _).alloc _⟩

/-- an entry: its label's four numbers, and its tag -/
structure Ent where
  c : Int
  s : Int
  t : Int
  n : Int
  g : Int
  deriving DecidableEq, Inhabited

def Ent.enc (e : Ent) : List Value := [.int .i64 e.c, .int .i64 e.s, .int .i64 e.t, .int .i64 e.n, .int .i64 e.g]

theorem find1_any (g : Int) (B : Nat) (w0 W : World) (x : Ent) (hB : B < w0.heap.size) (hc : w0.cell? ⟨B, 0, none⟩ = some (.int .i64 g)) (hb : Below w0.heap.size w0 W) :
    Calls Try.prog 48 (#[.agg x.enc.toArray] ++ #[.pointer (some ⟨B, 0, none⟩)]) W fun e w' => e = .returned (.bool (x.g == g)) ∧ Below w0.heap.size w0 w' := by
  have hc' : W.cell? ⟨B, 0, none⟩ = some (.int .i64 g) := (hb.cell (p := ⟨B, 0, none⟩) hB).trans hc
  have hlt : B < W.heap.size := Nat.lt_of_lt_of_le hB hb.size
  have hs := hb.size
  have HB := Lib.hid hb; clear hb
  obtain ⟨c, s, t, n, g'⟩ := x
  show Calls Try.prog 48 #[.agg #[.int .i64 c, .int .i64 s, .int .i64 t, .int .i64 n, .int .i64 g'], .pointer (some ⟨B, 0, none⟩)] W _
  go_enter Try.func48, Try.ntmps48
  go_wp2
  go_ret
  exact ⟨rfl, HB.out.alloc hs _⟩

end Go.Proofs.Ytkpjfmlhjpbdhaa
