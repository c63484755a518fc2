/- The walk of TopQueued. -/
import Derived.Test.YtkpjfmlhjpbdhaaTopPlain
namespace Go.Proofs.Ytkpjfmlhjpbdhaa
open Go.RowKit Go.Lib Go.Sort
attribute [local go_sem ↓] Go.wp_at_zero Go.wp_at_succ

theorem keep2 {w : World} {L base B : Nat} {es : List Ent} {room : Int} {a b : Value} (a' b' : Value) (hq : IsQ w base B es room) (h : w.heap[L]? = some (.cells #[a, b] 62 (0, 0))) :
    IsQ ((w.setCell ⟨L, 0, none⟩ a').setCell ⟨L, 1, none⟩ b') base B es room ∧ ((w.setCell ⟨L, 0, none⟩ a').setCell ⟨L, 1, none⟩ b').heap[L]? = some (.cells #[a', b'] 62 (0, 0)) := by
  have h1 : (w.setCell ⟨L, 0, none⟩ a').heap[L]? = some (.cells #[a', b] 62 (0, 0)) := by
    simp only [World.setCell, Array.getElem?_modify, if_true, h, Option.map_some]; simp
  have h2 : ((w.setCell ⟨L, 0, none⟩ a').setCell ⟨L, 1, none⟩ b').heap[L]? = some (.cells #[a', b'] 62 (0, 0)) := by
    rw [World.setCell]
    simp only [Array.getElem?_modify, if_true, h1, Option.map_some]; simp
  refine ⟨?_, h2⟩
  have c1 := Chg.setCell (base := 0) (T := [62]) (p := ⟨L, 0, none⟩) h (by simp) (Nat.zero_le _) a'
  have c2 := Chg.setCell (base := 0) (T := [62]) (p := ⟨L, 1, none⟩) h1 (by simp) (Nat.zero_le _) b'
  exact (hq.keep c1 (by decide) (by decide)).keep c2 (by decide) (by decide)

set_option maxHeartbeats 2000000 in
set_option maxRecDepth 100000 in
theorem topq_walk (a : Option Addr) (len cap : Nat) (w : World) (hlen : len ≤ maxLen)
    (hrow : ∀ k, k < len → ∃ b off c s t n, a = some ⟨b, off, none⟩ ∧ w.cell? ⟨b, off + k * 4, none⟩ = some (.int .i64 c) ∧ w.cell? ⟨b, off + k * 4 + 1, none⟩ = some (.int .i64 s) ∧ w.cell? ⟨b, off + k * 4 + 2, none⟩ = some (.int .i64 t) ∧ w.cell? ⟨b, off + k * 4 + 3, none⟩ = some (.int .i64 n)) :
    Calls Try.prog 5 #[.slice a len cap] w fun e w' => e = .returned (.bool true) ∧ Below w.heap.size w w' := by
  unfold maxLen at hlen
  have HROW := Lib.hid hrow; clear hrow
  go_enter Try.func5, Try.ntmps5
  go_wp2_with (go_at_call 6; refine (new_ok 64 _ (by decide) (by decide)).mono ?_; rintro e w1 ⟨rfl, hq, hE⟩; have HQ := Lib.hid hq; clear hq; have HE := Lib.hid hE; clear hE)
  go_loopw [5] (fun i wr => ∃ (k : Nat) (es : List Ent), k ≤ 30 ∧ k ≤ len ∧ i = .int .i64 k ∧ Hid (Laid es k ∧ IsQ wr w.heap.size w.heap.size es 64 ∧ Below w.heap.size w wr)) (fun i _ => 30 - (intOf i).toNat)
  case atStart => exact ⟨0, [], by omega, by omega, rfl, Lib.hid ⟨Laid.nil, HQ.out, HE.out⟩⟩
  case round =>
    obtain ⟨k, es, hk, hkl, rfl, HI⟩ := hrel
    by_cases hlt : k < len ∧ k < 30
    · obtain ⟨h1, h2⟩ := hlt
      obtain ⟨b, off, c, s, t, n, rfl, c0, c1, c2, c3⟩ := HROW.out k h1
      have hb := HI.out.2.2
      have d0 := cell_below hb c0
      have d1 := cell_below hb c1
      have d2 := cell_below hb c2
      have d3 := cell_below hb c3
      clear c0 c1 c2 c3 hb
      have k0 : (0 : Int) ≤ (k : Int) := by omega
      have k1 : (k : Int) < (len : Int) := by omega
      have k2 : (k : Int) < 30 := by omega
      go_wp2_with fail
      refine (llabel_any c s t n wr).mono ?_
      rintro e w2 ⟨rfl, hb2⟩
      have hok : (⟨partI c 3 + 1, partI s 256, partI t 2048, partI n 32, k⟩ : Ent).ok := by
        have p0 := partI_bd c 3 (by decide)
        have p1 := partI_bd s 256 (by decide)
        have p2 := partI_bd t 2048 (by decide)
        have p3 := partI_bd n 32 (by decide)
        show decide _ = true
        rw [decide_eq_true_eq]
        dsimp only
        omega
      have hB2 : Below w.heap.size w w2 := HI.out.2.2.trans (hb2.mono HI.out.2.2.size)
      have hput := put_ok w.heap.size w.heap.size es 64 ⟨partI c 3 + 1, partI s 256, partI t 2048, partI n 32, k⟩ w2 hB2.size (HI.out.2.1.below hb2) hok HI.out.1.none (by rw [HI.out.1.len]; omega) (by rw [HI.out.1.len]; omega)
      have HP := Lib.hid hput; clear hput
      have HK := Lib.hid hok; clear hok
      have HB2 := Lib.hid hB2; clear hB2 hb2
      have k3 : (k : Int) + 1 ≤ 30 := by omega
      go_wp2_with fail
      refine HP.out.mono ?_
      rintro e w3 ⟨rfl, es', hp, hs, hq', hcg⟩
      have hb3 : Below w.heap.size w w3 := HB2.out.trans (hcg.below HB2.out.size)
      have HN := Lib.hid (And.intro (HI.out.1.put _ HK.out rfl hp hs) (And.intro hq' hb3))
      clear hp hs hq' hcg hb3
      go_wp2
      go_roundw
      case rel => exact ⟨k + 1, es', by omega, by omega, by go_num, HN⟩
      case measure => simp [intOf]; omega
    · have hx : len ≤ k ∨ 30 ≤ k := by omega
      have HL : Hid (w.heap.size < wr.heap.size) := by
        obtain ⟨v, _, hh, _⟩ := HI.out.2.1
        exact Lib.hid (Array.getElem?_eq_some_iff.1 hh).1
      have HS : Hid (Sorted es ∧ (∀ e ∈ es, e.ok) ∧ es.length ≤ 30) := Lib.hid ⟨HI.out.1.sorted, HI.out.1.ok, by rw [HI.out.1.len]; exact hk⟩
      rcases (show ((k : Int) < (len : Int) ∧ ¬ (k : Int) < 30) ∨ (¬ (k : Int) < (len : Int)) by omega) with ⟨h3, h4⟩ | h3
      all_goals
        clear hx hlt
        generalize hLL : wr.heap.size = L at HL
        have HLL := Lib.hid hLL; clear hLL
        go_wp2_with fail
        rw [HLL.out]
        go_loopw [7] (fun i wq => ∃ (j : Nat) (fs : List Ent) (last : Int), i = .int .i64 j ∧ Hid (j + fs.length ≤ 30 ∧ IsQ wq w.heap.size w.heap.size fs 64 ∧ Left fs last ∧ Below w.heap.size w wq ∧ wq.heap[L]? = some (.cells #[.bool (decide (0 < j)), .int .u32 last] 62 (0, 0)) ∧ 0 ≤ last ∧ last < 536870912)) (fun i _ => 40 - (intOf i).toNat)
        case atStart =>
          have hb0 : Below wr.heap.size wr (wr.alloc (.cells #[.bool false, .int .u32 0] 62 (0, 0))) := (Below.refl _ _).alloc (Nat.le_refl _) _
          refine ⟨0, es, 0, rfl, Lib.hid ⟨by have := HS.out.2.2; omega, HI.out.2.1.below hb0, ⟨HS.out.1, HS.out.2.1, fun e he => (id_bd e (HS.out.2.1 e he)).1⟩, HI.out.2.2.trans (hb0.mono (by rw [HLL.out]; exact Nat.le_of_lt HL.out)), ?_, by decide, by decide⟩⟩
          rw [← HLL.out]; exact heap_alloc_new _ _
        case round =>
          obtain ⟨j, fs, last, rfl, HJ⟩ := hrel
          have HB := Lib.hid HJ.out.2.2.2.1
          have HLC := Lib.hid HJ.out.2.2.2.2.1
          cases fs with
          | nil =>
            have hl := len_any w.heap.size w.heap.size [] 64 wr HJ.out.2.1
            have hr := room_any w.heap.size w.heap.size [] 64 wr HJ.out.2.1
            have HR1 := Lib.hid hl; clear hl
            have HR2 := Lib.hid hr; clear hr
            go_wp2_with (first
              | (go_at_call 22; refine HR1.out.mono ?_; rintro e w2 ⟨rfl, rfl⟩)
              | (go_at_call 26; refine HR2.out.mono ?_; rintro e w2 ⟨rfl, rfl⟩))
            go_ret
            exact ⟨rfl, HB.out⟩
          | cons x l =>
            have hjl : j + l.length + 1 ≤ 30 := by have := HJ.out.1; simp at this; omega
            have hm0 : (x :: l).length = l.length + 1 := rfl
            have hl := len_any w.heap.size w.heap.size (x :: l) 64 wr HJ.out.2.1
            rw [hm0] at hl
            generalize hm : l.length = m at hl hjl
            have HM := Lib.hid hm; clear hm hm0
            have HR1 := Lib.hid hl; clear hl
            have k1 : (0 : Int) < ((m + 1 : Nat) : Int) := by omega
            have k2 : (j : Int) < 40 := by omega
            have HHD := Lib.hid (head_yes w.heap.size w.heap.size x l 64 wr HJ.out.2.1)
            have HID := fun W => Lib.hid (cid_any x.c x.s x.t x.n W (HJ.out.2.2.1.ok x (by simp)))
            have HTK := fun W (hW : Below wr.heap.size wr W) => Lib.hid (take_yes w.heap.size w.heap.size (x :: l) 64 x.g W 0 (by simp) (HJ.out.2.1.below hW) (idxT_head x l))
            obtain ⟨xc, xs, xt, xn, xg⟩ := x
            simp only [List.eraseIdx_zero, List.tail_cons, List.getElem_cons_zero] at HTK
            generalize hidn : idNum xc xs xt xn = v at HID
            have HIDN := Lib.hid hidn; clear hidn
            go_wp2_with fail
            refine HR1.out.mono ?_
            rintro e w2 ⟨rfl, rfl⟩
            go_wp2_with fail
            refine HHD.out.mono ?_
            rintro e w2 ⟨rfl, hb2⟩
            have HB2 := Lib.hid hb2; clear hb2
            go_wp2_with fail
            refine (HID _).out.mono ?_
            rintro e w3 ⟨rfl, hb3⟩
            have e4 : w3.cell? ⟨w2.heap.size, 4, none⟩ = some (.int .i64 xg) := by rw [(bcell hb3).1 _ _ (by simp)]; simp
            have hz3 : w2.heap.size < w3.heap.size := by have := hb3.size; simp at this; omega
            have hB3 : Below wr.heap.size wr w3 := (HB2.out.alloc HB2.out.size _).trans (hb3.mono (by have := HB2.out.size; simp; omega))
            have HB3 := Lib.hid hB3; clear hB3 hb3
            go_wp2_with fail
            refine (HTK _ (HB3.out.alloc HB3.out.size _)).out.mono ?_
            rintro e w4 ⟨rfl, hq4, hc4⟩
            have n1 : 62 ∉ [35, 70] := by decide
            have hzr := HB3.out.size
            have hLr : L < wr.heap.size := (Array.getElem?_eq_some_iff.1 HLC.out).1
            have hi4 := hc4.cells (heap_alloc_new w3 (.cells #[.bool true, .int .u32 v] 62 (0, 0))) n1
            have hl4 := (Chg.of_below (HB3.out.alloc HB3.out.size (.cells #[.bool true, .int .u32 v] 62 (0, 0))) |>.trans hc4).cells HLC.out n1
            have hz4 := hc4.size
            simp at hz4
            have zz1 : w3.heap.size < w4.heap.size := by omega
            have zz2 : L < w4.heap.size := by omega
            have zz3 : ¬ L = w3.heap.size := by omega
            have zz4 : ¬ w3.heap.size = L := by omega
            have hN := HJ.out.2.2.1.next
            have hv := (show (Ent.mk xc xs xt xn xg).id = v from HIDN.out)
            rw [hv] at hN
            have hbd := id_bd _ (HJ.out.2.2.1.ok (Ent.mk xc xs xt xn xg) (by simp))
            have hlv := HJ.out.2.2.1.last (Ent.mk xc xs xt xn xg) (by simp)
            rw [hv] at hbd hlv
            have hl0 := HJ.out.2.2.2.2.2
            have HW := fun W => Lib.hid (rwins_ext v last W hbd.1 hbd.2 hl0.1 hl0.2 hlv)
            have HNN := Lib.hid (And.intro hN hbd); clear hN hbd hlv hv hl0
            have i0 : w4.cell? ⟨w3.heap.size, 0, none⟩ = some (.bool true) := cell_in hi4 rfl
            have i1 : w4.cell? ⟨w3.heap.size, 1, none⟩ = some (.int .u32 v) := cell_in hi4 rfl
            have l0 : w4.cell? ⟨L, 0, none⟩ = some (.bool (decide (0 < j))) := cell_in hl4 rfl
            have l1 : w4.cell? ⟨L, 1, none⟩ = some (.int .u32 last) := cell_in hl4 rfl
            have g0 : w4.frozen? ⟨L, 0, none⟩ = false := frozen_in hl4
            have g1 : w4.frozen? ⟨L, 1, none⟩ = false := frozen_in hl4
            have hB4 : Below w.heap.size w w4 := by
              have q1 := HB.out.trans ((HB3.out.alloc HB3.out.size (.cells #[.bool true, .int .u32 v] 62 (0, 0))).mono HB.out.size)
              exact q1.trans (hc4.below q1.size)
            have HB4 := Lib.hid (And.intro hB4 (And.intro hq4 hl4))
            clear hB4 hq4 hl4 hc4 hi4 hz4 e4 n1 HTK HID HHD
            by_cases hj0 : j = 0
            · subst hj0
              go_wp2
              go_roundw
              case rel =>
                have u2 := keep2 (.bool true) (.int .u32 v) HB4.out.2.1 HB4.out.2.2
                have u3 := (HB4.out.1.setCell (p := ⟨L, 0, none⟩) (Nat.le_of_lt HL.out) (.bool true)).setCell (p := ⟨L, 1, none⟩) (Nat.le_of_lt HL.out) (.int .u32 v)
                have u1 := ((Below.refl ((w4.setCell ⟨L, 0, none⟩ (.bool true)).setCell ⟨L, 1, none⟩ (.int .u32 v)).heap.size ((w4.setCell ⟨L, 0, none⟩ (.bool true)).setCell ⟨L, 1, none⟩ (.int .u32 v))).alloc (Nat.le_refl _) (.cells #[.int .i64 xc, .int .i64 xs, .int .i64 xt, .int .i64 xn, .int .i64 xg] 35 (0, 0)))
                exact ⟨1, l, v, by go_num, Lib.hid ⟨by rw [HM.out]; omega, u2.1.below u1, HNN.out.1, u3.trans (u1.mono u3.size), below_cells u1 u2.2, HNN.out.2⟩⟩
              case measure => simp [intOf]
            · have hj1 : (0 : Int) < (j : Int) := by omega
              have hd : decide (0 < j) = true := by simp; omega
              rw [hd] at l0
              go_wp2_with fail
              refine (HW _).out.mono ?_
              rintro e w5 ⟨rfl, hb5⟩
              obtain ⟨hc, hf⟩ := bcell hb5
              have y0 : w5.cell? ⟨w3.heap.size, 0, none⟩ = some (.bool true) := by rw [hc _ _ (by simp; omega), cell_alloc i0]
              have y1 : w5.cell? ⟨w3.heap.size, 1, none⟩ = some (.int .u32 v) := by rw [hc _ _ (by simp; omega), cell_alloc i1]
              have y2 : w5.cell? ⟨L, 0, none⟩ = some (.bool true) := by rw [hc _ _ (by simp; omega), cell_alloc l0]
              have y3 : w5.cell? ⟨L, 1, none⟩ = some (.int .u32 last) := by rw [hc _ _ (by simp; omega), cell_alloc l1]
              have y4 : w5.frozen? ⟨L, 0, none⟩ = false := by rw [hf _ _ (by simp; omega)]; exact fz_alloc l0 g0
              have y5 : w5.frozen? ⟨L, 1, none⟩ = false := by rw [hf _ _ (by simp; omega)]; exact fz_alloc l0 g1
              have u1 := ((Below.refl w4.heap.size w4).alloc (Nat.le_refl _) (.cells #[.int .i64 xc, .int .i64 xs, .int .i64 xt, .int .i64 xn, .int .i64 xg] 35 (0, 0))).trans (hb5.mono (by simp))
              have HU := Lib.hid u1; clear u1 hb5 hc hf
              go_wp2
              go_roundw
              case rel =>
                have u2 := keep2 (.bool true) (.int .u32 v) (HB4.out.2.1.below HU.out) (below_cells HU.out HB4.out.2.2)
                have u3 := HB4.out.1.trans (HU.out.mono HB4.out.1.size)
                exact ⟨j + 1, l, v, by go_num, Lib.hid ⟨by rw [HM.out]; omega, u2.1, HNN.out.1, (u3.setCell (Nat.le_of_lt HL.out) _).setCell (Nat.le_of_lt HL.out) _, by rw [u2.2]; simp, HNN.out.2⟩⟩
              case measure => simp [intOf]; omega

end Go.Proofs.Ytkpjfmlhjpbdhaa
