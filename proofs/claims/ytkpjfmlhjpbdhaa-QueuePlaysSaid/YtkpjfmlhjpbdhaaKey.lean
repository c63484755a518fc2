/- Contracts: an identifier's bits and key, as the document has them, where it has 29 bits. -/
import Derived.Test.YtkpjfmlhjpbdhaaBits
namespace Go.Proofs.Ytkpjfmlhjpbdhaa
open Go.RowKit

abbrev idV (e : Bool) (n : Int) : Value := .agg #[.bool e, .int .u32 n]

theorem rright_ext (n : Int) (w : World) (h : n < 536870912) : Calls Try.prog 38 #[idV true n] w fun e w' => e = .returned (.bool true) ∧ Below w.heap.size w w' := by
  go_enter Try.func38, Try.ntmps38
  go_wp2
  go_ret
  exact ⟨rfl, (Below.refl _ _).alloc (Nat.le_refl _) _⟩

/-- the bits by which an identifier of 29 bits asks for the bus -/
def keyBits (n : Int) : List Int := bitsOf (n / 262144) 11 ++ [1, 1] ++ bitsOf n 18 ++ [0]

theorem bitsOf_length (n : Int) (W : Nat) : (bitsOf n W).length = W := by simp [bitsOf]

theorem brow_form {w : World} {base : Nat} {v : Value} {bs : List Int} (h : BRow w base v bs) (h0 : 0 < bs.length) : ∃ g cap, v = .slice (some ⟨g, 0, none⟩) bs.length cap ∧ base ≤ g ∧ g < w.heap.size ∧ (∀ j u, (bs.map (Value.int .u8))[j]? = some u → w.cell? ⟨g, j, none⟩ = some u) := by
  obtain ⟨_, ⟨rfl, hn⟩ | ⟨g, cap, cur, rfl, hb, hh, hcap, hm, hs, ht⟩⟩ := h
  · omega
  · refine ⟨g, cap, rfl, hb, (Array.getElem?_eq_some_iff.1 hh).1, fun j u hu => ?_⟩
    rw [cell_of_row w g j cur 5 (0, 0) hh]
    rw [Nat.mul_one] at ht
    rw [← ht, List.getElem?_take] at hu
    split at hu
    · simpa using hu
    · cases hu

set_option maxHeartbeats 2000000 in
set_option maxRecDepth 100000 in
theorem rbits_ext (n : Int) (w : World) (h0 : 0 ≤ n) (h : n < 536870912) : Calls Try.prog 45 #[idV true n, .bool false] w fun e w' =>
    ∃ v, e = .returned v ∧ BRow w' w.heap.size v (keyBits n) ∧ Below w.heap.size w w' := by
  obtain ⟨i0, hi, hz0, hz1, hz2⟩ := info_parts info5
  have hn1 : 0 ≤ n / 262144 := by omega
  have hn2 : n / 262144 < 18446744073709551616 := by omega
  have hn3 : n < 18446744073709551616 := by omega
  have HO1 := fun W => Lib.hid (rof_any (n / 262144) 11 W hn1 hn2 (by decide) (by decide))
  have HO2 := fun W => Lib.hid (rof_any n 18 W h0 hn3 (by decide) (by decide))
  clear hn2 hn3
  go_enter Try.func45, Try.ntmps45
  go_wp2_with fail
  refine (rright_ext _ _ h).mono ?_
  rintro e w1 ⟨rfl, hE⟩
  obtain ⟨hc, hf⟩ := bcell hE
  have hb1 := ((Below.refl w.heap.size w).alloc (Nat.le_refl _) (.cells #[.bool true, .int .u32 n] 62)).trans (hE.mono (by simp))
  have x0 : w1.cell? ⟨w.heap.size, 0, none⟩ = some (.bool true) := by rw [hc _ _ (by simp)]; simp
  have x1 : w1.cell? ⟨w.heap.size, 1, none⟩ = some (.int .u32 n) := by rw [hc _ _ (by simp)]; simp
  clear hc hf
  have HB1 := Lib.hid hb1; clear hb1
  go_wp2_with fail
  refine ((HO1 _).out).mono ?_
  rintro e w2 ⟨v1, rfl, hr1, hb2⟩
  have y1 := cell_below hb2 x1
  have hne : v1.ownBlock ≠ some w.heap.size := fun e => by have := (hr1.lt _ e).1; have := hE.size; simp at this; omega
  have HNE := Lib.hid hne; clear hne
  have hb2' := HB1.out.trans (hb2.mono HB1.out.size)
  have hr1' : w2.ownsRow w.heap.size 5 1 v1 11 ((bitsOf (n / 262144) 11).map (Value.int .u8)) := by
    have h := row_mono hr1 HB1.out.size
    rwa [bitsOf_length] at h
  have HR1 := Lib.hid hr1'; clear hr1 hr1'
  have HB2 := Lib.hid hb2'; clear hb2' hb2 x0 x1
  go_wp2_with (at_builtin; refine wpList_append_own _ rfl _ _ 91 rfl w.heap.size 5 i0 (.int .u8 0) 1 1 Try.underlying91 hi hz0 hz1 hz2 rfl (by decide) v1 11 ((bitsOf (n / 262144) 11).map (Value.int .u8)) rfl (HR1.out.alloc _) ⟨w2.heap.size, 0, none⟩ 2 2 [.int .u8 1, .int .u8 1] rfl rfl (World.news_of_block (cs := #[.int .u8 1, .int .u8 1]) (by exact heap_alloc_new _ _)) (by simp [Value.oneCell']) (by unfold maxLen; omega) (by omega) (by have := HB2.out.size; simp; omega) ?_; intro v3 w3 hown3 hgrow3 _; have y3 : w3.cell? ⟨w.heap.size, 1, none⟩ = some (.int .u32 n) := cell_grown hgrow3 (cell_alloc y1) (fun e => HNE.out e.symm))
  have hb3 : Below w.heap.size w w3 := (HB2.out.alloc HB2.out.size _).grown hgrow3 (by have := HB2.out.size; simp; omega) (fun j e => (HR1.out.lt j e).1)
  have HR3 := Lib.hid hown3; clear hown3 hgrow3
  have HB3 := Lib.hid hb3; clear hb3 y1
  go_wp2_with fail
  refine ((HO2 _).out).mono ?_
  rintro e w4 ⟨v4, rfl, hr4, hb4⟩
  have hr3 := below_row hb4 HR3.out
  obtain ⟨g4, cap4, rfl, hg4, hl4, hc4⟩ := brow_form hr4 (by rw [bitsOf_length]; decide)
  rw [bitsOf_length]
  have hb4' := HB3.out.trans (hb4.mono HB3.out.size)
  have HR4 := Lib.hid hr3; clear hr3
  have HB4 := Lib.hid hb4'; clear hb4' hb4 hr4
  have HC4 := Lib.hid hc4; clear hc4
  go_wp2_with (first
    | (at_builtin; refine wpList_append_own _ rfl _ _ 91 rfl w.heap.size 5 i0 (.int .u8 0) 1 1 Try.underlying91 hi hz0 hz1 hz2 rfl (by decide) v3 (11 + 2) ((bitsOf (n / 262144) 11).map (Value.int .u8) ++ [.int .u8 1, .int .u8 1]) (by rfl) HR4.out ⟨g4, 0, none⟩ 18 cap4 ((bitsOf n 18).map (Value.int .u8)) (by rfl) (by rw [List.length_map, bitsOf_length]) ?_ ?_ (by unfold maxLen; omega) (by omega) HB4.out.size ?_; (intro j u hu; rw [Addr.add_lit, Nat.zero_add]; exact HC4.out j u hu); (intro u hu; obtain ⟨x, _, rfl⟩ := List.mem_map.1 hu; rfl); intro v5 w5 hown5 hgrow5 _; have HR5 := Lib.hid hown5; clear hown5; have hb5 : Below w.heap.size w w5 := HB4.out.grown hgrow5 HB4.out.size (fun j e => (HR4.out.lt j e).1); have HB5 := Lib.hid hb5; clear hb5 hgrow5)
    | (at_builtin; refine wpList_append_own _ rfl _ _ 91 rfl w.heap.size 5 i0 (.int .u8 0) 1 1 Try.underlying91 hi hz0 hz1 hz2 rfl (by decide) _ (11 + 2 + 18) _ (by rfl) (HR5.out.alloc _) ⟨w5.heap.size, 0, none⟩ 1 1 [.int .u8 0] (by rfl) (by rfl) (World.news_of_block (cs := #[.int .u8 0]) (by exact heap_alloc_new _ _)) (by simp [Value.oneCell']) (by unfold maxLen; omega) (by omega) (by have := HB5.out.size; simp; omega) ?_; intro v6 w6 hown6 hgrow6 _; have HR6 := Lib.hid hown6; clear hown6; have hb6 : Below w.heap.size w w6 := (HB5.out.alloc HB5.out.size _).grown hgrow6 (by have := HB5.out.size; simp; omega) (fun j e => (HR5.out.lt j e).1); have HB6 := Lib.hid hb6; clear hb6 hgrow6))
  go_ret
  refine ⟨v6, rfl, ?_, HB6.out⟩
  have h6 := HR6.out
  have e1 : (keyBits n).length = 11 + 2 + 18 + 1 := by simp [keyBits, bitsOf_length]
  have e2 : (keyBits n).map (Value.int .u8) = ((bitsOf (n / 262144) 11).map (Value.int .u8) ++ [.int .u8 1, .int .u8 1] ++ (bitsOf n 18).map (Value.int .u8)) ++ [.int .u8 0] := by simp [keyBits]
  unfold BRow
  rw [e1, e2]
  exact h6

/-- the number of bits, the highest one first -/
def numL (bs : List Int) : Int := bs.foldl (fun a x => a * 2 + (if x = 0 then 0 else 1)) 0

theorem numL_snoc (bs : List Int) (x : Int) : numL (bs ++ [x]) = numL bs * 2 + (if x = 0 then 0 else 1) := by simp [numL]

theorem numL_aux (bs : List Int) : ∀ (a : Int) (m : Nat), 0 ≤ a → a < 2 ^ m → 0 ≤ bs.foldl (fun a x => a * 2 + (if x = 0 then 0 else 1)) a ∧ bs.foldl (fun a x => a * 2 + (if x = 0 then 0 else 1)) a < 2 ^ (m + bs.length) := by
  induction bs with
  | nil => intro a m h1 h2; exact ⟨h1, h2⟩
  | cons x l ih =>
    intro a m h1 h2
    have h := ih (a * 2 + (if x = 0 then 0 else 1)) (m + 1) (by split <;> omega) (by rw [Int.pow_succ]; split <;> omega)
    rw [List.foldl_cons, List.length_cons, show m + (l.length + 1) = m + 1 + l.length by omega]
    exact h
theorem numL_lt (bs : List Int) : 0 ≤ numL bs ∧ numL bs < 2 ^ bs.length := by
  have h := numL_aux bs 0 0 (by decide) (by decide)
  rwa [Nat.zero_add] at h
theorem take_snocD (bs : List Int) (k : Nat) (hk : k < bs.length) : bs.take (k + 1) = bs.take k ++ [bs.getD k 0] := by
  rw [List.take_succ_eq_append_getElem hk, List.getD_eq_getElem?_getD, List.getElem?_eq_getElem hk]; rfl

set_option maxRecDepth 100000 in
theorem rnumber_any (base : Nat) (v : Value) (bs : List Int) (w : World) (hr : BRow w base v bs) (hl : bs.length ≤ 62) : Calls Try.prog 46 #[v] w fun e w' => e = .returned (.int .u64 (numL bs)) ∧ w = w' := by
  have hcell : ∃ a c, v = .slice a bs.length c ∧ ∀ k, (hk : k < bs.length) → ∃ g, a = some ⟨g, 0, none⟩ ∧ w.cell? ⟨g, k, none⟩ = some (.int .u8 (bs.getD k 0)) := by
    by_cases h0 : 0 < bs.length
    · obtain ⟨g, cap, rfl, _, _, hc⟩ := brow_form hr h0
      exact ⟨_, cap, rfl, fun k hk => ⟨g, rfl, hc k _ (by rw [List.getElem?_map, List.getD_eq_getElem?_getD, List.getElem?_eq_getElem hk]; rfl)⟩⟩
    · obtain ⟨_, ⟨rfl, hn⟩ | ⟨g, cap, cur, rfl, _⟩⟩ := hr
      · exact ⟨none, 0, by rw [hn], fun k hk => by omega⟩
      · exact ⟨_, cap, rfl, fun k hk => by omega⟩
  obtain ⟨a, c, rfl, hcell⟩ := hcell
  have HC := Lib.hid hcell; clear hcell hr
  generalize hn : bs.length = n at *
  have HN := Lib.hid hn; clear hn
  go_enter Try.func46, Try.ntmps46
  go_wp2
  go_loop [3, 4] (fun s i => ∃ k : Nat, k ≤ n ∧ i = .int .i64 k ∧ s = .int .u64 (numL (bs.take k))) (fun _ i => n - (intOf i).toNat)
  case atStart => exact ⟨0, Nat.zero_le _, rfl, rfl⟩
  case round =>
    obtain ⟨k, hk, rfl, rfl⟩ := hrel
    by_cases hlt : k < n
    · obtain ⟨g, rfl, hc⟩ := HC.out k hlt
      have hb := numL_lt (bs.take k)
      have hlen : (bs.take k).length = k := by rw [List.length_take, HN.out]; omega
      rw [hlen] at hb
      have hp : (2 : Int) ^ k ≤ 2 ^ 61 := by exact_mod_cast Nat.pow_le_pow_right (by decide) (by omega)
      have hbig : numL (bs.take k) < 2305843009213693952 := by omega
      have hnn := hb.1
      have hs := numL_snoc (bs.take k) (bs.getD k 0)
      rw [← take_snocD bs k (by rw [HN.out]; exact hlt)] at hs
      generalize bs.getD k 0 = x at *
      generalize numL (bs.take k) = N at *
      have HS := Lib.hid hs; clear hs
      clear hb hp hlen
      have hx1 : (0 : Int) ≤ (if x = 0 then 0 else 1) ∧ (if x = 0 then (0 : Int) else 1) ≤ 1 := by split <;> omega
      have hone := rone_any x
      generalize (if x = 0 then (0 : Int) else 1) = y at *
      obtain ⟨hy0, hy1⟩ := hx1
      have HO := Lib.hid hone; clear hone
      go_wp2_with (go_at_call 55; refine (HO.out _).mono ?_; rintro e w' ⟨rfl, rfl⟩)
      go_round
      case rel => exact ⟨k + 1, by omega, by go_num, by rw [HS.out]⟩
      case measure => simp [intOf]; omega
    · have hkn : k = n := by omega
      subst hkn
      have HL : Hid (bs.take k = bs) := List.take_of_length_le (by rw [HN.out]; exact Nat.le_refl _)
      rw [HL.out]
      go_wp2
      go_ret
      exact ⟨rfl, rfl⟩

end Go.Proofs.Ytkpjfmlhjpbdhaa
