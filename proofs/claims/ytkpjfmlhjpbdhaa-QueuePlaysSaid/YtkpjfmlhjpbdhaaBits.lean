/- Contracts: numbers as bits, as the document has them. -/
import Derived.Test.YtkpjfmlhjpbdhaaCmp
import Derived.Test.YtkpjfmlhjpbdhaaChg
import Derived.Deep.AppendLies
namespace Go.Proofs.Ytkpjfmlhjpbdhaa
open Go.RowKit

/-- a row of bytes, all new -/
abbrev BRow (w : World) (base : Nat) (v : Value) (bs : List Int) : Prop := w.ownsRow base 5 1 v bs.length (bs.map (Value.int .u8))

theorem info5 : (Try.prog.info? 5).map (fun i => (i.zero, i.size, i.bytes)) = some (some (.int .u8 0), 1, 1) := by kernel_rfl

theorem rone_any (x : Int) (w : World) : Calls Try.prog 55 #[.int .u8 x] w fun e w' => e = .returned (.int .u8 (if x = 0 then 0 else 1)) ∧ w = w' := by
  by_cases h : x = 0
  · have h1 : (x == 0) = true := by simp [h]
    go_enter Try.func55, Try.ntmps55
    go_wp2
    go_ret
    exact ⟨rfl, rfl⟩
  · have h1 : (x == 0) = false := by simp [h]
    go_enter Try.func55, Try.ntmps55
    go_wp2
    go_ret
    exact ⟨rfl, rfl⟩

/-- the bits of a number, the highest one first -/
def bitsOf (n : Int) (W : Nat) : List Int := (List.range W).map fun k => n / 2 ^ (W - 1 - k) % 2

set_option maxHeartbeats 1000000 in
set_option maxRecDepth 100000 in
theorem rof_any (n : Int) (W : Nat) (w : World) (h0 : 0 ≤ n) (h1 : n < 18446744073709551616) (hW : 1 ≤ W) (hW2 : W ≤ 64) : Calls Try.prog 54 #[.int .u64 n, .int .i64 W] w fun e w' =>
    ∃ v, e = .returned v ∧ BRow w' w.heap.size v (bitsOf n W) ∧ Below w.heap.size w w' := by
  obtain ⟨i0, hi, hz0, hz1, hz2⟩ := info_parts info5
  have H1 := Lib.hid h1; clear h1
  have w1 : (1 : Int) ≤ (W : Int) := by omega
  have w2 : (W : Int) ≤ 64 := by omega
  have w3 : decide ((W : Int) < 1) = false := by simp; omega
  have w4 : decide (64 < (W : Int)) = false := by simp; omega
  go_enter Try.func54, Try.ntmps54
  go_wp2
  go_loopw [5, 6] (fun v i wr => ∃ k : Nat, k ≤ W ∧ i = .int .i64 ((W : Int) - 1 - k) ∧ wr.ownsRow w.heap.size 5 1 v k (((bitsOf n W).take k).map (Value.int .u8)) ∧ Below w.heap.size w wr) (fun _ i _ => (intOf i + 1).toNat)
  case atStart => exact ⟨0, Nat.zero_le _, by simp, World.ownsRow_nil _ _ _ _, Below.refl _ _⟩
  case round =>
    obtain ⟨k, hk, rfl, hown, hb⟩ := hrel
    by_cases hlt : k < W
    · have hx : bits BinOp.and IntKind.u64 (n / 2 ^ (W - 1 - k)) 1 % 256 = n / 2 ^ (W - 1 - k) % 2 := by
        have hnn : 0 ≤ n / 2 ^ (W - 1 - k) := Int.ediv_nonneg h0 (by exact_mod_cast Nat.zero_le _)
        rw [and_one_u64 _ hnn (by have h2 := Int.ediv_le_self (2 ^ (W - 1 - k)) h0; have h3 := H1.out; omega)]
        omega
      have htk : (bitsOf n W).take (k + 1) = (bitsOf n W).take k ++ [n / 2 ^ (W - 1 - k) % 2] := by
        have hl : k < (bitsOf n W).length := by simp [bitsOf]; exact hlt
        rw [List.take_succ_eq_append_getElem hl]
        simp [bitsOf]
      have HX := Lib.hid hx; clear hx
      have HT := Lib.hid htk; clear htk
      have HO := Lib.hid hown; clear hown
      have HB := Lib.hid hb; clear hb
      have w5 : (0 : Int) ≤ (W : Int) - 1 - k := by omega
      go_wp2_with (at_builtin; refine wpList_append_own _ rfl _ _ 91 rfl w.heap.size 5 i0 (.int .u8 0) 1 1 Try.underlying91 hi hz0 hz1 hz2 rfl (by decide) _ k (((bitsOf n W).take k).map (Value.int .u8)) rfl (HO.out.alloc _) ⟨wr.heap.size, 0, none⟩ 1 1 [.int .u8 (bits BinOp.and IntKind.u64 (n / 2 ^ (W - 1 - k)) 1 % 256)] rfl rfl (World.news_of_block (cs := #[.int .u8 (bits BinOp.and IntKind.u64 (n / 2 ^ (W - 1 - k)) 1 % 256)]) (by exact heap_alloc_new _ _)) (by simp [Value.oneCell']) (by unfold maxLen; omega) (by omega) (by have := HB.out.size; simp; omega) ?_; intro v' wn hown' hgrow _)
      have hb' : Below w.heap.size w wn := (HB.out.alloc HB.out.size _).grown hgrow (by have := HB.out.size; simp; omega) (fun j e => (HO.out.lt j e).1)
      rw [HX.out, show ((bitsOf n W).take k).map (Value.int .u8) ++ [Value.int .u8 (n / 2 ^ (W - 1 - k) % 2)] = ((bitsOf n W).take (k + 1)).map (Value.int .u8) by rw [HT.out, List.map_append]; rfl] at hown'
      have HO' := Lib.hid hown'; clear hown' hgrow
      have HB' := Lib.hid hb'; clear hb'
      go_wp2
      go_roundw
      case rel => exact ⟨k + 1, by omega, by congr 1; omega, HO'.out, HB'.out⟩
      case measure => simp [intOf]; omega
    · have hkW : k = W := by omega
      subst hkW
      have w5 : (k : Int) - 1 - k < 0 := by omega
      have HO := Lib.hid hown; clear hown
      have HB := Lib.hid hb; clear hb
      have HL : Hid ((bitsOf n k).take k = bitsOf n k ∧ (bitsOf n k).length = k) := ⟨List.take_of_length_le (by simp [bitsOf]), by simp [bitsOf]⟩
      go_wp2
      go_ret
      refine ⟨_, rfl, ?_, HB.out⟩
      have h := HO.out
      rw [HL.out.1] at h
      unfold BRow
      rw [HL.out.2]
      exact h

end Go.Proofs.Ytkpjfmlhjpbdhaa
