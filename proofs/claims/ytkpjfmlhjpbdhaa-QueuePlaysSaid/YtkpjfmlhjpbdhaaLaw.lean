/- Contracts: a label that can be, from any one; a label's identifier; who wins the bus. -/
import Derived.Test.YtkpjfmlhjpbdhaaKey
import Derived.Test.YtkpjfmlhjpbdhaaQa
import Derived.Deep.RegionHeld3
import Derived.Deep.DrawnRows
import Derived.StillTailTactics
namespace Go.Proofs.Ytkpjfmlhjpbdhaa
open Go.RowKit
attribute [local go_sem ↓] Go.wp_at_zero Go.wp_at_succ

/-- a number from 0 on, below a bound -/
def partI (n b : Int) : Int := if n < 0 then 0 else n % b

theorem partI_bd (n b : Int) (hb : 0 < b) : 0 ≤ partI n b ∧ partI n b ≤ b - 1 := by
  unfold partI
  split
  · omega
  · have := Int.emod_nonneg n (by omega : b ≠ 0); have := Int.emod_lt_of_pos n hb; omega

theorem part_any (n b : Int) (hb : 0 < b) (w : World) : Calls Try.prog 36 #[.int .i64 n, .int .i64 b] w fun e w' => e = .returned (.int .i64 (partI n b)) ∧ w' = w := by
  have hz : (b == 0) = false := by rw [beq_eq_false_iff_ne]; omega
  by_cases h : n < 0
  · go_enter Try.func36, Try.ntmps36
    go_wp2
    go_ret
    exact ⟨ret_int (by unfold partI; rw [if_pos (by omega)]), rfl⟩
  · go_enter Try.func36, Try.ntmps36
    go_wp2
    go_ret
    exact ⟨ret_int (by unfold partI; rw [if_neg (by omega)]), rfl⟩

set_option maxHeartbeats 1000000 in
theorem llabel_any (c s t n : Int) (w : World) : Calls Try.prog 20 #[labV c s t n] w fun e w' =>
    e = .returned (labV (partI c 3 + 1) (partI s 256) (partI t 2048) (partI n 32)) ∧ Below w.heap.size w w' := by
  have p0 := partI_bd c 3 (by decide)
  obtain ⟨p1, p2⟩ := p0
  go_enter Try.func20, Try.ntmps20
  go_wp2
  generalize hW : World.alloc _ _ = W0
  have hx : Below w.heap.size w W0 := by rw [← hW]; exact ((Below.refl _ _).alloc (Nat.le_refl _) _).alloc (by simp) _
  have c0 : W0.cell? ⟨w.heap.size, 0, none⟩ = some (.int .i64 c) := by rw [← hW]; simp [go_sem]
  have c1 : W0.cell? ⟨w.heap.size, 1, none⟩ = some (.int .i64 s) := by rw [← hW]; simp [go_sem]
  have c2 : W0.cell? ⟨w.heap.size, 2, none⟩ = some (.int .i64 t) := by rw [← hW]; simp [go_sem]
  have c3 : W0.cell? ⟨w.heap.size, 3, none⟩ = some (.int .i64 n) := by rw [← hW]; simp [go_sem]
  have d0 : W0.heap[w.heap.size + 1]? = some (.cells #[.int .i64 0, .int .i64 0, .int .i64 0, .int .i64 0] 33 (0, 0)) := by rw [← hW]; exact (by simpa using heap_alloc_new (w.alloc (.cells #[.int .i64 c, .int .i64 s, .int .i64 t, .int .i64 n] 33)) (.cells #[.int .i64 0, .int .i64 0, .int .i64 0, .int .i64 0] 33))
  have e0 : W0.cell? ⟨w.heap.size + 1, 0, none⟩ = some (.int .i64 0) := cell_in d0 rfl
  have e1 : W0.cell? ⟨w.heap.size + 1, 1, none⟩ = some (.int .i64 0) := cell_in d0 rfl
  have e2 : W0.cell? ⟨w.heap.size + 1, 2, none⟩ = some (.int .i64 0) := cell_in d0 rfl
  have e3 : W0.cell? ⟨w.heap.size + 1, 3, none⟩ = some (.int .i64 0) := cell_in d0 rfl
  have f0 : W0.frozen? ⟨w.heap.size + 1, 0, none⟩ = false := frozen_in d0
  have f1 : W0.frozen? ⟨w.heap.size + 1, 1, none⟩ = false := frozen_in d0
  have f2 : W0.frozen? ⟨w.heap.size + 1, 2, none⟩ = false := frozen_in d0
  have f3 : W0.frozen? ⟨w.heap.size + 1, 3, none⟩ = false := frozen_in d0
  clear hW d0
  generalize hA : w.heap.size = A at c0 c1 c2 c3 e0 e1 e2 e3 f0 f1 f2 f3
  have HA := Lib.hid hA; clear hA
  have HX := Lib.hid hx; clear hx
  go_region_held3 (fun w' => w'.cell? ⟨A, 0, none⟩ = some (.int .i64 c) ∧ w'.cell? ⟨A, 1, none⟩ = some (.int .i64 s) ∧ w'.cell? ⟨A, 2, none⟩ = some (.int .i64 t) ∧ w'.cell? ⟨A, 3, none⟩ = some (.int .i64 n)) (go_keep)
    ((go_at_call 36; refine (part_any _ _ (by decide) _).mono ?_; rintro e w' ⟨rfl, rfl⟩))
  all_goals
    go_wp2
    have hb := HX.out
    have hw : IntKind.i64.wrap (partI c 3 + 1) = partI c 3 + 1 := IntWalk.i64_in _ (by omega)
    have hle : w.heap.size ≤ A + 1 := by have := HA.out; omega
    refine bodyPost_ret (v := labV (partI c 3 + 1) (partI s 256) (partI t 2048) (partI n 32)) (by simp [results, Try.results20, go_sem, *]) rfl ⟨rfl, ?_⟩
    exact ((((hb.setCell (by exact hle) _).setCell (by exact hle) _).setCell (by exact hle) _).setCell (by exact hle) _).drew

theorem bits_or_u32_nat (a b : Nat) (ha : a < 4294967296) (hb : b < 4294967296) : bits .or .u32 (a : Int) (b : Int) = ((a ||| b : Nat) : Int) := by
  have hx : a ||| b < 2 ^ 32 := Nat.or_lt_two_pow (by omega) (by omega)
  have h1 : (BitVec.ofInt 32 (a : Int)).toNat = a := by
    rw [BitVec.ofInt_natCast, BitVec.toNat_ofNat]; exact Nat.mod_eq_of_lt (by omega)
  have h2 : (BitVec.ofInt 32 (b : Int)).toNat = b := by
    rw [BitVec.ofInt_natCast, BitVec.toNat_ofNat]; exact Nat.mod_eq_of_lt (by omega)
  show IntKind.u32.wrap ((BitVec.ofInt 32 (a : Int) ||| BitVec.ofInt 32 (b : Int)).toNat : Int) = _
  rw [BitVec.toNat_or, h1, h2, IntKind.wrap_u32]
  omega

theorem or_shift (x y : Int) (k : Nat) (hx : 0 ≤ x) (hy : 0 ≤ y) (hyk : y < 2 ^ k) (hb : x * 2 ^ k + y < 4294967296) : bits .or .u32 (x * 2 ^ k) y = x * 2 ^ k + y := by
  obtain ⟨a, rfl⟩ := Int.eq_ofNat_of_zero_le hx
  obtain ⟨b, rfl⟩ := Int.eq_ofNat_of_zero_le hy
  have hb' : b < 2 ^ k := by exact_mod_cast hyk
  have hs : a * 2 ^ k + b < 4294967296 := by
    have h : ((a * 2 ^ k + b : Nat) : Int) < 4294967296 := by rw [Int.natCast_add, Int.natCast_mul, Int.natCast_pow]; exact hb
    omega
  have e : ((a : Int) * 2 ^ k) = ((a * 2 ^ k : Nat) : Int) := by push_cast; rfl
  rw [e, bits_or_u32_nat _ _ (by omega) (by omega)]
  have := Nat.shiftLeft_add_eq_or_of_lt hb' a
  rw [Nat.shiftLeft_eq] at this
  rw [← this]; push_cast; rfl

theorem number_eq (c s t n : Int) (h1 : 1 ≤ c) (h2 : c ≤ 3) (h3 : 0 ≤ s) (h4 : s ≤ 255) (h5 : 0 ≤ t) (h6 : t ≤ 2047) (h7 : 0 ≤ n) (h8 : n ≤ 31) :
    bits BinOp.or IntKind.u32 (bits BinOp.or IntKind.u32 (bits BinOp.or IntKind.u32 (bits BinOp.or IntKind.u32 0 c * 256 % 4294967296) s * 2048 % 4294967296) t * 32 % 4294967296) n * 8 % 4294967296 = (((c * 256 + s) * 2048 + t) * 32 + n) * 8 := by
  have e0 : bits BinOp.or IntKind.u32 0 c = c := by
    have := or_shift 0 c 2 (by decide) (by omega) (by omega) (by omega)
    simpa using this
  have e1 : bits BinOp.or IntKind.u32 (c * 256) s = c * 256 + s := or_shift c s 8 (by omega) (by omega) (by omega) (by omega)
  have e2 : bits BinOp.or IntKind.u32 ((c * 256 + s) * 2048) t = (c * 256 + s) * 2048 + t := or_shift (c * 256 + s) t 11 (by omega) (by omega) (by omega) (by omega)
  have e3 : bits BinOp.or IntKind.u32 (((c * 256 + s) * 2048 + t) * 32) n = ((c * 256 + s) * 2048 + t) * 32 + n := or_shift ((c * 256 + s) * 2048 + t) n 5 (by omega) (by omega) (by omega) (by omega)
  have m1 : c * 256 % 4294967296 = c * 256 := Int.emod_eq_of_lt (by omega) (by omega)
  have m2 : (c * 256 + s) * 2048 % 4294967296 = (c * 256 + s) * 2048 := Int.emod_eq_of_lt (by omega) (by omega)
  have m3 : ((c * 256 + s) * 2048 + t) * 32 % 4294967296 = ((c * 256 + s) * 2048 + t) * 32 := Int.emod_eq_of_lt (by omega) (by omega)
  have m4 : (((c * 256 + s) * 2048 + t) * 32 + n) * 8 % 4294967296 = (((c * 256 + s) * 2048 + t) * 32 + n) * 8 := Int.emod_eq_of_lt (by omega) (by omega)
  rw [e0, m1, e1, m2, e2, m3, e3, m4]

theorem number_any (c s t n : Int) (w : World) (hr : lright c s t n = true) : Calls Try.prog 37 #[labV c s t n] w fun e w' =>
    e = .returned (.int .u32 ((((c * 256 + s) * 2048 + t) * 32 + n) * 8)) ∧ Below w.heap.size w w' := by
  have hr' : 1 ≤ c ∧ c ≤ 3 ∧ 0 ≤ s ∧ s ≤ 255 ∧ 0 ≤ t ∧ t ≤ 2047 ∧ 0 ≤ n ∧ n ≤ 31 := of_decide_eq_true hr
  obtain ⟨h1, h2, h3, h4, h5, h6, h7, h8⟩ := hr'
  clear hr
  have i0 : ∀ w, (Instr.index 89 (.agg #[.int .i64 c, .int .i64 s, .int .i64 t, .int .i64 n]) (.int .i64 0)).run Try.prog w = .ok (.int .i64 c) w := fun _ => by kernel_rfl
  have i1 : ∀ w, (Instr.index 89 (.agg #[.int .i64 c, .int .i64 s, .int .i64 t, .int .i64 n]) (.int .i64 1)).run Try.prog w = .ok (.int .i64 s) w := fun _ => by kernel_rfl
  have i2 : ∀ w, (Instr.index 89 (.agg #[.int .i64 c, .int .i64 s, .int .i64 t, .int .i64 n]) (.int .i64 2)).run Try.prog w = .ok (.int .i64 t) w := fun _ => by kernel_rfl
  have i3 : ∀ w, (Instr.index 89 (.agg #[.int .i64 c, .int .i64 s, .int .i64 t, .int .i64 n]) (.int .i64 3)).run Try.prog w = .ok (.int .i64 n) w := fun _ => by kernel_rfl
  go_enter Try.func37, Try.ntmps37
  go_wp2_with (go_at_call 44; refine (fields_any _ _ _ _ _).mono ?_; rintro e w' ⟨rfl, rfl⟩)
  refine wp_loop_rounds 5 ?_
  rw [rounds_succ]
  go_wp2
  rw [rounds_succ]
  go_wp2
  rw [rounds_succ]
  go_wp2
  rw [rounds_succ]
  go_wp2
  rw [rounds_succ]
  go_wp2
  go_ret
  exact ⟨ret_int (number_eq c s t n h1 h2 h3 h4 h5 h6 h7 h8), by repeat (first | exact Below.refl _ _ | refine Below.alloc ?_ (by simp <;> omega) _)⟩

end Go.Proofs.Ytkpjfmlhjpbdhaa
