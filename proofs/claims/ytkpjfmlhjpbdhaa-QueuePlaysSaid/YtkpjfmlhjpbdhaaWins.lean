/- Contracts: a label's identifier; who wins the bus. -/
import Derived.Test.YtkpjfmlhjpbdhaaLaw
namespace Go.Proofs.Ytkpjfmlhjpbdhaa
open Go.RowKit
attribute [local go_sem ↓] Go.wp_at_zero Go.wp_at_succ

/-- a label's identifier -/
def idNum (c s t n : Int) : Int := (((c * 256 + s) * 2048 + t) * 32 + n) * 8

theorem cid_any (c s t n : Int) (w : World) (hr : lright c s t n = true) : Calls Try.prog 24 #[labV c s t n] w fun e w' =>
    e = .returned (.tuple #[idV true (idNum c s t n), .int .i64 0]) ∧ Below w.heap.size w w' := by
  have hR := cright_any c s t n
  have hN := fun W => number_any c s t n W hr
  rw [hr] at hR
  have hdef : (((c * 256 + s) * 2048 + t) * 32 + n) * 8 = idNum c s t n := rfl
  rw [hdef] at hN
  generalize idNum c s t n = v at *
  have HR := Lib.hid hR; clear hR hr hdef
  have HN := Lib.hid hN; clear hN
  go_enter Try.func24, Try.ntmps24
  go_wp2_with fail
  refine (HR.out _).mono ?_
  rintro e w1 ⟨rfl, hE⟩
  obtain ⟨hc, hf⟩ := bcell hE.below
  have hz := hE.size
  simp at hz
  have hb1 : Below w.heap.size w w1 := (((Below.refl w.heap.size w).alloc (Nat.le_refl _) (.cells #[.int .i64 c, .int .i64 s, .int .i64 t, .int .i64 n] 33)).alloc (by simp) (.cells #[.bool false, .int .u32 0] 62)).trans (hE.below.mono (by simp; omega))
  have x0 : w1.cell? ⟨w.heap.size + 1, 0, none⟩ = some (.bool false) := by rw [hc _ _ (by simp)]; simp [go_sem]
  have x1 : w1.cell? ⟨w.heap.size + 1, 1, none⟩ = some (.int .u32 0) := by rw [hc _ _ (by simp)]; simp [go_sem]
  have f0 : w1.frozen? ⟨w.heap.size + 1, 0, none⟩ = false := by rw [hf _ _ (by simp)]; exact frozen_in (by simpa using heap_alloc_new (w.alloc (.cells #[.int .i64 c, .int .i64 s, .int .i64 t, .int .i64 n] 33)) (.cells #[.bool false, .int .u32 0] 62))
  have f1 : w1.frozen? ⟨w.heap.size + 1, 1, none⟩ = false := by rw [hf _ _ (by simp)]; exact frozen_in (by simpa using heap_alloc_new (w.alloc (.cells #[.int .i64 c, .int .i64 s, .int .i64 t, .int .i64 n] 33)) (.cells #[.bool false, .int .u32 0] 62))
  have HE := Lib.hid hE; clear hE
  have HB1 := Lib.hid hb1; clear hb1
  go_wp2_with fail
  refine (HN.out _).mono ?_
  rintro e w2 ⟨rfl, hE2⟩
  have y0 := cell_below hE2 x0
  have y1 := cell_below hE2 x1
  have g0 : w2.frozen? ⟨w.heap.size + 1, 0, none⟩ = false := by rw [hE2.frozen (p := ⟨w.heap.size + 1, 0, none⟩) (cell_lt x0)]; exact f0
  have g1 : w2.frozen? ⟨w.heap.size + 1, 1, none⟩ = false := by rw [hE2.frozen (p := ⟨w.heap.size + 1, 1, none⟩) (cell_lt x0)]; exact f1
  have hb2 := HB1.out.trans (hE2.mono HB1.out.size)
  have HB2 := Lib.hid hb2; clear hb2 hE2 hc hf x0 x1 f0 f1
  go_wp2
  refine bodyPost_ret (v := .tuple #[idV true v, .int .i64 0]) (by simp [results, Try.results24, go_sem, *]) rfl ⟨rfl, ?_⟩
  exact (HB2.out.setCell (by exact Nat.le_succ _) _).setCell (by exact Nat.le_succ _) _

theorem rkey_ext (n : Int) (w : World) (h0 : 0 ≤ n) (h : n < 536870912) : Calls Try.prog 39 #[idV true n, .bool false] w fun e w' =>
    e = .returned (.int .u32 (numL (keyBits n))) ∧ Below w.heap.size w w' := by
  have hb := numL_lt (keyBits n)
  have hlen : (keyBits n).length = 32 := by simp [keyBits, bitsOf_length]
  rw [hlen] at hb
  have hk1 : 0 ≤ numL (keyBits n) := hb.1
  have hk2 : numL (keyBits n) ≤ 4294967295 := by have h := hb.2; simp at h; omega
  have hB := fun W => rbits_ext n W h0 h
  have hnum := fun base v W hr => rnumber_any base v (keyBits n) W hr (by rw [hlen]; decide)
  have hform : ∀ W base v, BRow W base v (keyBits n) → ∃ a c, v = .slice a 32 c := by
    intro W base v hr
    obtain ⟨g, cap, rfl, _⟩ := brow_form hr (by rw [hlen]; decide)
    exact ⟨_, cap, by rw [hlen]⟩
  clear hb hlen
  generalize numL (keyBits n) = v at *
  generalize keyBits n = bs at *
  have HB := Lib.hid hB; clear hB
  have HN := Lib.hid hnum; clear hnum
  have HF := Lib.hid hform; clear hform
  go_enter Try.func39, Try.ntmps39
  go_wp2_with fail
  refine (HB.out _).mono ?_
  rintro e w1 ⟨b, rfl, hr, hE⟩
  obtain ⟨a, c, rfl⟩ := HF.out _ _ _ hr
  have HR := Lib.hid hr; clear hr
  have HE := Lib.hid hE; clear hE
  go_wp2
  refine wp_loop_rounds 1 ?_
  rw [rounds_succ]
  go_wp2_with (go_at_call 46; refine (HN.out _ _ _ HR.out).mono ?_; rintro e w2 ⟨rfl, rfl⟩)
  go_ret
  exact ⟨rfl, ((Below.refl _ _).alloc (Nat.le_refl _) _).trans (HE.out.mono (by simp))⟩

theorem numL_fold (bs : List Int) (a : Int) : bs.foldl (fun a x => a * 2 + (if x = 0 then 0 else 1)) a = a * 2 ^ bs.length + numL bs := by
  unfold numL
  have h : ∀ (l : List Int) (a b : Int), l.foldl (fun a x => a * 2 + (if x = 0 then 0 else 1)) (a + b) = a * 2 ^ l.length + l.foldl (fun a x => a * 2 + (if x = 0 then 0 else 1)) b := by
    intro l
    induction l with
    | nil => intro a b; simp
    | cons x l ih =>
      intro a b
      rw [List.foldl_cons, List.foldl_cons, show (a + b) * 2 + (if x = 0 then 0 else 1) = a * 2 + (b * 2 + (if x = 0 then 0 else 1)) by rw [Int.add_mul]; omega, ih, List.length_cons, Int.pow_succ, Int.mul_assoc, Int.mul_comm 2]
  have := h bs a 0
  simpa using this

theorem numL_append (a b : List Int) : numL (a ++ b) = numL a * 2 ^ b.length + numL b := by
  rw [show numL (a ++ b) = b.foldl (fun a x => a * 2 + (if x = 0 then 0 else 1)) (numL a) from List.foldl_append, numL_fold]

theorem numL_bitsOf (n : Int) (W : Nat) : numL (bitsOf n W) = n % 2 ^ W := by
  induction W generalizing n with
  | zero => simp [bitsOf, numL]
  | succ W ih =>
    have e : bitsOf n (W + 1) = bitsOf (n / 2) W ++ [n % 2] := by
      unfold bitsOf
      rw [List.range_succ, List.map_append]
      congr 1
      · apply List.map_congr_left
        intro k hk
        have hk' : k < W := by simpa using hk
        rw [show W + 1 - 1 - k = (W - 1 - k) + 1 by omega, Int.pow_succ, Int.mul_comm, ← Int.ediv_ediv_of_nonneg (by decide)]
      · simp
    rw [e, numL_snoc, ih, Int.pow_succ]
    have h1 : n % (2 ^ W * 2) = (n / 2 % 2 ^ W) * 2 + n % 2 := by
      have hp : (0 : Int) < 2 ^ W := Int.pow_pos (by decide)
      generalize (2 : Int) ^ W = p at *
      have a1 := Int.emod_add_mul_ediv n 2
      have a2 := Int.emod_add_mul_ediv (n / 2) p
      have b1 := Int.emod_nonneg (n / 2) (by omega : p ≠ 0)
      have b2 := Int.emod_lt_of_pos (n / 2) hp
      have hx : n = (n / 2 % p) * 2 + n % 2 + (p * 2) * (n / 2 / p) := by
        have : (p * 2) * (n / 2 / p) = 2 * (p * (n / 2 / p)) := by rw [Int.mul_comm p 2, Int.mul_assoc]
        omega
      rw [hx, Int.add_mul_emod_self_left, Int.emod_eq_of_lt (by omega) (by omega)]
      rw [← hx]
    rw [h1]
    split <;> omega

theorem key_mono (a b : Int) (ha : 0 ≤ a) (ha2 : a < 536870912) (hb : 0 ≤ b) (hb2 : b < 536870912) (h : b ≤ a) : ¬ numL (keyBits a) < numL (keyBits b) := by
  have e : ∀ n : Int, 0 ≤ n → n < 536870912 → numL (keyBits n) = (n / 262144) * 2097152 + 1572864 + (n % 262144) * 2 := by
    intro n h0 h1
    have t1 : numL [1, 1] = 3 := by decide
    have t2 : numL [0] = 0 := by decide
    rw [keyBits, numL_append, numL_append, numL_append, numL_bitsOf, numL_bitsOf, t1, t2, bitsOf_length]
    simp only [List.length_cons, List.length_nil]
    omega
  rw [e a ha ha2, e b hb hb2]
  omega

end Go.Proofs.Ytkpjfmlhjpbdhaa
