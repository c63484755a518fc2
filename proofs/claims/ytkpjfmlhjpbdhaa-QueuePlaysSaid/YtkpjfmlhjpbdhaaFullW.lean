/- The walk of QueueFull. -/
import Derived.Test.YtkpjfmlhjpbdhaaTags
import Derived.Test.YtkpjfmlhjpbdhaaFirst
import Derived.Test.YtkpjfmlhjpbdhaaRowK
import Derived.Test.YtkpjfmlhjpbdhaaLive
namespace Go.Proofs.Ytkpjfmlhjpbdhaa
open Go.RowKit Go.Lib Go.Sort
attribute [local go_sem ↓] Go.wp_at_zero Go.wp_at_succ

/-- a queue of so many entries, beside a box with the label -/
structure Fill (B A : Nat) (c s t n : Int) (w0 w : World) (es : List Ent) (k : Nat) (room : Int) : Prop where
  q : IsQ w B B es room
  b : Below w0.heap.size w0 w
  tags : Tags es k
  a : Keeps w B A #[.int .i64 c, .int .i64 s, .int .i64 t, .int .i64 n] 33

set_option maxHeartbeats 4000000 in
set_option maxRecDepth 100000 in
theorem full_walk (r : Int) (a : Option Addr) (len cap : Nat) (w : World) (hr : 0 ≤ r ∧ r ≤ 255) (hlen : len ≤ maxLen)
    (hrow : ∀ k, k < len → ∃ b off c s t n, a = some ⟨b, off, none⟩ ∧ w.cell? ⟨b, off + k * 4, none⟩ = some (.int .i64 c) ∧ w.cell? ⟨b, off + k * 4 + 1, none⟩ = some (.int .i64 s) ∧ w.cell? ⟨b, off + k * 4 + 2, none⟩ = some (.int .i64 t) ∧ w.cell? ⟨b, off + k * 4 + 3, none⟩ = some (.int .i64 n)) :
    Calls Try.prog 4 #[.int .u8 r, .slice a len cap] w fun e w' => e = .returned (.bool true) ∧ Below w.heap.size w w' := by
  unfold maxLen at hlen
  have HROW := Lib.hid hrow; clear hrow
  obtain ⟨N, hN⟩ : ∃ N : Nat, r % 64 + 1 = (N : Int) := ⟨(r % 64 + 1).toNat, by omega⟩
  have hN1 : 1 ≤ N ∧ N ≤ 64 := by omega
  obtain ⟨hr0, hr1⟩ := hr
  obtain ⟨hN0, hN2⟩ := hN1
  go_enter Try.func4, Try.ntmps4
  go_wp2_with fail
  refine (new_ok N _ (by omega) (by omega)).mono ?_
  rintro e w1 ⟨rfl, hq, hE⟩
  have hf1 := first_any a len cap w1 (fun k hk => by
    obtain ⟨b, off, c, s, t, n, h, c0, c1, c2, c3⟩ := HROW.out k hk
    exact ⟨b, off, c, s, t, n, h, cell_below hE c0, cell_below hE c1, cell_below hE c2, cell_below hE c3⟩)
  have HQ := Lib.hid (And.intro hq hE); clear hq hE
  have HF1 := Lib.hid hf1; clear hf1
  go_wp2_with fail
  refine HF1.out.mono ?_
  rintro e w2 ⟨⟨c, s, t, n, rfl, hR⟩, hb2⟩
  have HR := Lib.hid hR; clear hR HF1
  have hF : Fill w.heap.size w2.heap.size c s t n w (w2.alloc (.cells #[.int .i64 c, .int .i64 s, .int .i64 t, .int .i64 n] 33 (0, 0))) [] 0 N := by
    have q2 := HQ.out.1.below hb2
    have b3 : Below w2.heap.size w2 (w2.alloc (.cells #[.int .i64 c, .int .i64 s, .int .i64 t, .int .i64 n] 33 (0, 0))) := (Below.refl _ _).alloc (Nat.le_refl _) _
    have b4 := HQ.out.2.trans (hb2.mono HQ.out.2.size)
    exact ⟨q2.below b3, b4.trans (b3.mono b4.size), Tags.nil, Keeps.new q2 _ _⟩
  have HF := Lib.hid hF; clear hF hb2 HQ
  generalize hA : w2.heap.size = A at HF
  have HA := Lib.hid hA; clear hA
  go_wp2_with fail
  rw [HA.out]
  generalize hBB : w.heap.size = B at HF ⊢
  have HBB := Lib.hid (Nat.le_of_eq hBB); clear hBB
  go_loopw [9] (fun i wr => ∃ (k : Nat) (es : List Ent), k ≤ N ∧ i = .int .i64 k ∧ Hid (Fill B A c s t n w wr es k N)) (fun i _ => N - (intOf i).toNat)
  case atStart => exact ⟨0, [], by omega, rfl, HF⟩
  case round =>
    obtain ⟨k, es, hk, rfl, HI⟩ := hrel
    by_cases hlt : k < N
    · have h1 : (k : Int) < (N : Int) := by omega
      have a0 : wr.cell? ⟨A, 0, none⟩ = some (.int .i64 c) := HI.out.a.cell rfl
      have a1 : wr.cell? ⟨A, 1, none⟩ = some (.int .i64 s) := HI.out.a.cell rfl
      have a2 : wr.cell? ⟨A, 2, none⟩ = some (.int .i64 t) := HI.out.a.cell rfl
      have a3 : wr.cell? ⟨A, 3, none⟩ = some (.int .i64 n) := HI.out.a.cell rfl
      go_wp2_with fail
      refine (put_okm B B es N ⟨c, s, t, n, k⟩ _ (Nat.le_of_lt HI.out.q.lt) HI.out.q HR.out HI.out.tags.none (by rw [HI.out.tags.len]; exact h1) (by rw [HI.out.tags.len]; omega)).mono ?_
      rintro e w3 ⟨rfl, es', hp, hs, hq', hcg, hm⟩
      have HN := Lib.hid (Fill.mk hq' (HI.out.b.trans ((hcg.below (Nat.le_of_lt HI.out.q.lt)).mono HBB.out)) (HI.out.tags.put ⟨c, s, t, n, k⟩ rfl hp) (HI.out.a.mine hm))
      clear hp hs hq' hcg hm
      go_wp2
      go_roundw
      case rel => exact ⟨k + 1, es', by omega, by go_num, HN⟩
      case measure => simp [intOf]; omega
    · have h1 : ¬ (k : Int) < (N : Int) := by omega
      have hkN : k = N := by omega
      have HI2 : Hid (Fill B A c s t n w wr es N N) := by rw [hkN] at HI; exact HI
      clear hkN HI
      have a0 : wr.cell? ⟨A, 0, none⟩ = some (.int .i64 c) := HI2.out.a.cell rfl
      have a1 : wr.cell? ⟨A, 1, none⟩ = some (.int .i64 s) := HI2.out.a.cell rfl
      have a2 : wr.cell? ⟨A, 2, none⟩ = some (.int .i64 t) := HI2.out.a.cell rfl
      have a3 : wr.cell? ⟨A, 3, none⟩ = some (.int .i64 n) := HI2.out.a.cell rfl
      go_wp2_with fail
      refine (all_row B B es N _ HI2.out.q (by rw [HI2.out.tags.len]; omega)).mono ?_
      rintro e w3 ⟨v1, rfl, hr3, hb3⟩
      have HK3 := Lib.hid (And.intro (Fill.mk (HI2.out.q.below hb3) (HI2.out.b.trans (hb3.mono HI2.out.b.size)) HI2.out.tags (HI2.out.a.below HI2.out.q.lt hb3)) (RowK.of HI2.out.q hb3 hr3 (by rw [HI2.out.tags.len]; omega)))
      clear hr3 hb3 a0 a1 a2 a3
      have a0 : w3.cell? ⟨A, 0, none⟩ = some (.int .i64 c) := HK3.out.1.a.cell rfl
      have a1 : w3.cell? ⟨A, 1, none⟩ = some (.int .i64 s) := HK3.out.1.a.cell rfl
      have a2 : w3.cell? ⟨A, 2, none⟩ = some (.int .i64 t) := HK3.out.1.a.cell rfl
      have a3 : w3.cell? ⟨A, 3, none⟩ = some (.int .i64 n) := HK3.out.1.a.cell rfl
      go_wp2_with fail
      refine (put_full B B es N ⟨c, s, t, n, N⟩ _ HK3.out.1.q HR.out HK3.out.1.tags.none (by rw [HK3.out.1.tags.len]; exact Int.le_refl _)).mono ?_
      rintro e w4 ⟨rfl, hb4⟩
      have HK4 := Lib.hid (And.intro (Fill.mk (HK3.out.1.q.below hb4) (HK3.out.1.b.trans (hb4.mono HK3.out.1.b.size)) HK3.out.1.tags (HK3.out.1.a.below HK3.out.1.q.lt hb4)) (HK3.out.2.below HK3.out.1.q.lt hb4))
      clear hb4 a0 a1 a2 a3 HK3
      go_wp2_with fail
      refine (all_row B B es N _ HK4.out.1.q (by rw [HK4.out.1.tags.len]; omega)).mono ?_
      rintro e w5 ⟨v2, rfl, hr5, hb5⟩
      have HK5 := Lib.hid (And.intro (Fill.mk (HK4.out.1.q.below hb5) (HK4.out.1.b.trans (hb5.mono HK4.out.1.b.size)) HK4.out.1.tags (HK4.out.1.a.below HK4.out.1.q.lt hb5)) (And.intro (HK4.out.2.below HK4.out.1.q.lt hb5) (RowK.of HK4.out.1.q hb5 hr5 (by rw [HK4.out.1.tags.len]; omega))))
      clear hr5 hb5 HK4
      obtain ⟨b1, cap1, rfl⟩ := HK5.out.2.1.form HK5.out.1.tags.len
      obtain ⟨b2, cap2, rfl⟩ := HK5.out.2.2.form HK5.out.1.tags.len
      have HEL := Lib.hid HK5.out.1.tags.len
      clear HI2
      go_wp2_with fail
      go_loopw [13] (fun i wr => ∃ (j : Nat) (fs : List Ent), j ≤ N ∧ i = .int .i64 j ∧ Hid (Fill B A c s t n w wr fs N N ∧ RowK wr B (.slice (some ⟨b1, 0, none⟩) N cap1) es ∧ RowK wr B (.slice (some ⟨b2, 0, none⟩) N cap2) es)) (fun i _ => N - (intOf i).toNat)
      case atStart => exact ⟨0, es, by omega, rfl, HK5⟩
      case round =>
        clear HK5
        obtain ⟨j, fs, hj, rfl, HJ⟩ := hrel
        by_cases hjN : j < N
        · have k1 : (j : Int) < (N : Int) := by omega
          have k0 : (0 : Int) ≤ (j : Int) := by omega
          obtain ⟨x0, x1, x2, x3, x4⟩ := HJ.out.2.1.cells j (by rw [HEL.out]; exact hjN)
          obtain ⟨y0, y1, y2, y3, y4⟩ := HJ.out.2.2.cells j (by rw [HEL.out]; exact hjN)
          generalize hex : (es[j]'(by rw [HEL.out]; exact hjN)) = x at x0 x1 x2 x3 x4 y0 y1 y2 y3 y4
          obtain ⟨xc, xs, xt, xn, xg⟩ := x
          simp only at x0 x1 x2 x3 x4 y0 y1 y2 y3 y4
          have HEX := Lib.hid hex; clear hex
          by_cases hjl : j < len
          · have k2 : (j : Int) < (len : Int) := by omega
            obtain ⟨lb, lo, lc, ls, lt, ln, rfl, l0', l1', l2', l3'⟩ := HROW.out j hjl
            have L0 := Lib.hid l0'
            have l0 := cell_below HJ.out.1.b l0'
            have L1 := Lib.hid l1'
            have l1 := cell_below HJ.out.1.b l1'
            have L2 := Lib.hid l2'
            have l2 := cell_below HJ.out.1.b l2'
            have L3 := Lib.hid l3'
            have l3 := cell_below HJ.out.1.b l3'
            clear l0' l1' l2' l3'
            have P1 : ∀ W, Below wr.heap.size wr W → Calls Try.prog 20 #[labV lc ls lt ln] W fun e w' => e = .returned (labV (partI lc 3 + 1) (partI ls 256) (partI lt 2048) (partI ln 32)) ∧ Hid (Below wr.heap.size wr w') ∧ w'.cell? ⟨b1, j * 5, none⟩ = some (.int .i64 xc) ∧ w'.cell? ⟨b1, j * 5 + 1, none⟩ = some (.int .i64 xs) ∧ w'.cell? ⟨b1, j * 5 + 2, none⟩ = some (.int .i64 xt) ∧ w'.cell? ⟨b1, j * 5 + 3, none⟩ = some (.int .i64 xn) ∧ w'.cell? ⟨b1, j * 5 + 4, none⟩ = some (.int .i64 xg) ∧ w'.cell? ⟨b2, j * 5, none⟩ = some (.int .i64 xc) ∧ w'.cell? ⟨b2, j * 5 + 1, none⟩ = some (.int .i64 xs) ∧ w'.cell? ⟨b2, j * 5 + 2, none⟩ = some (.int .i64 xt) ∧ w'.cell? ⟨b2, j * 5 + 3, none⟩ = some (.int .i64 xn) ∧ w'.cell? ⟨b2, j * 5 + 4, none⟩ = some (.int .i64 xg) ∧ w'.cell? ⟨lb, lo + j * 4, none⟩ = some (.int .i64 lc) ∧ w'.cell? ⟨lb, lo + j * 4 + 1, none⟩ = some (.int .i64 ls) ∧ w'.cell? ⟨lb, lo + j * 4 + 2, none⟩ = some (.int .i64 lt) ∧ w'.cell? ⟨lb, lo + j * 4 + 3, none⟩ = some (.int .i64 ln) := by
              intro W hW
              refine (llabel_any lc ls lt ln W).mono ?_
              rintro e w' ⟨he, hb⟩
              have h := hW.trans (hb.mono hW.size)
              exact ⟨he, Lib.hid h, cell_below h x0, cell_below h x1, cell_below h x2, cell_below h x3, cell_below h x4, cell_below h y0, cell_below h y1, cell_below h y2, cell_below h y3, cell_below h y4, cell_below h l0, cell_below h l1, cell_below h l2, cell_below h l3⟩
            obtain ⟨kk, hkk, hidx⟩ := HJ.out.1.tags.some hjN
            have P2 : ∀ W, Below wr.heap.size wr W → Calls Try.prog 12 #[.pointer (some ⟨B, 0, none⟩), .int .i64 j, labV (partI lc 3 + 1) (partI ls 256) (partI lt 2048) (partI ln 32)] W fun e w' => e = .returned (.int .i64 0) ∧ (∃ fs', Hid (Fill B A c s t n w w' fs' N N ∧ RowK w' B (.slice (some ⟨b1, 0, none⟩) N cap1) es ∧ RowK w' B (.slice (some ⟨b2, 0, none⟩) N cap2) es)) ∧ w'.cell? ⟨b1, j * 5, none⟩ = some (.int .i64 xc) ∧ w'.cell? ⟨b1, j * 5 + 1, none⟩ = some (.int .i64 xs) ∧ w'.cell? ⟨b1, j * 5 + 2, none⟩ = some (.int .i64 xt) ∧ w'.cell? ⟨b1, j * 5 + 3, none⟩ = some (.int .i64 xn) ∧ w'.cell? ⟨b1, j * 5 + 4, none⟩ = some (.int .i64 xg) ∧ w'.cell? ⟨b2, j * 5, none⟩ = some (.int .i64 xc) ∧ w'.cell? ⟨b2, j * 5 + 1, none⟩ = some (.int .i64 xs) ∧ w'.cell? ⟨b2, j * 5 + 2, none⟩ = some (.int .i64 xt) ∧ w'.cell? ⟨b2, j * 5 + 3, none⟩ = some (.int .i64 xn) ∧ w'.cell? ⟨b2, j * 5 + 4, none⟩ = some (.int .i64 xg) ∧ w'.cell? ⟨lb, lo + j * 4, none⟩ = some (.int .i64 lc) ∧ w'.cell? ⟨lb, lo + j * 4 + 1, none⟩ = some (.int .i64 ls) ∧ w'.cell? ⟨lb, lo + j * 4 + 2, none⟩ = some (.int .i64 lt) ∧ w'.cell? ⟨lb, lo + j * 4 + 3, none⟩ = some (.int .i64 ln) := by
              intro W hW
              have r1 := HJ.out.2.1.below HJ.out.1.q.lt hW
              have r2 := HJ.out.2.2.below HJ.out.1.q.lt hW
              have b0 := HJ.out.1.b.trans (hW.mono HJ.out.1.b.size)
              refine (label_okm B B fs N j (partI lc 3 + 1) (partI ls 256) (partI lt 2048) (partI ln 32) kk W hkk (by rw [HJ.out.1.tags.len]; omega) (HJ.out.1.q.below hW) hidx (part_right lc ls lt ln)).mono ?_
              rintro e w' ⟨he, fs', hp, hs, hq', hc, hm⟩
              have b1' : Below w.heap.size W w' := (hc.below (Nat.le_of_lt (HJ.out.1.q.below hW).lt)).mono HBB.out
              have r1' := r1.mine hm
              have r2' := r2.mine hm
              obtain ⟨X0, X1, X2, X3, X4⟩ := r1'.cells j (by rw [HEL.out]; exact hjN)
              obtain ⟨Y0, Y1, Y2, Y3, Y4⟩ := r2'.cells j (by rw [HEL.out]; exact hjN)
              simp only [HEX.out] at X0 X1 X2 X3 X4 Y0 Y1 Y2 Y3 Y4
              have h := b0.trans b1'
              exact ⟨he, ⟨fs', Lib.hid ⟨⟨hq', h, HJ.out.1.tags.lab hkk hp, (HJ.out.1.a.below HJ.out.1.q.lt hW).mine hm⟩, r1', r2'⟩⟩, X0, X1, X2, X3, X4, Y0, Y1, Y2, Y3, Y4, cell_below h L0.out, cell_below h L1.out, cell_below h L2.out, cell_below h L3.out⟩
            have HP1 := Lib.hid P1; clear P1
            have HP2 := Lib.hid P2; clear P2
            clear hidx hkk
            generalize partI lc 3 + 1 = p0 at HP1 HP2
            generalize partI ls 256 = p1 at HP1 HP2
            generalize partI lt 2048 = p2 at HP1 HP2
            generalize partI ln 32 = p3 at HP1 HP2
            go_wp2_with fail
            go_region_held3 (fun w' => w'.cell? ⟨b1, j * 5, none⟩ = some (.int .i64 xc) ∧ w'.cell? ⟨b1, j * 5 + 1, none⟩ = some (.int .i64 xs) ∧ w'.cell? ⟨b1, j * 5 + 2, none⟩ = some (.int .i64 xt) ∧ w'.cell? ⟨b1, j * 5 + 3, none⟩ = some (.int .i64 xn) ∧ w'.cell? ⟨b1, j * 5 + 4, none⟩ = some (.int .i64 xg) ∧ w'.cell? ⟨b2, j * 5, none⟩ = some (.int .i64 xc) ∧ w'.cell? ⟨b2, j * 5 + 1, none⟩ = some (.int .i64 xs) ∧ w'.cell? ⟨b2, j * 5 + 2, none⟩ = some (.int .i64 xt) ∧ w'.cell? ⟨b2, j * 5 + 3, none⟩ = some (.int .i64 xn) ∧ w'.cell? ⟨b2, j * 5 + 4, none⟩ = some (.int .i64 xg) ∧ w'.cell? ⟨lb, lo + j * 4, none⟩ = some (.int .i64 lc) ∧ w'.cell? ⟨lb, lo + j * 4 + 1, none⟩ = some (.int .i64 ls) ∧ w'.cell? ⟨lb, lo + j * 4 + 2, none⟩ = some (.int .i64 lt) ∧ w'.cell? ⟨lb, lo + j * 4 + 3, none⟩ = some (.int .i64 ln))
              ((repeat' apply And.intro) <;> (repeat (first | with_reducible assumption | with_reducible refine cell_drewN ?_ | with_reducible refine cell_drew ?_)))
              (first
                | (go_at_call 20; refine (HP1.out _ (by repeat (first | with_reducible exact RowKit.Below.refl _ _ | with_reducible refine below_drewN ?_ _ | with_reducible refine RowKit.Below.drew ?_))).mono ?_; rintro e v3 ⟨rfl, HB1, g0, g1, g2, g3, g4, g5, g6, g7, g8, g9, g10, g11, g12, g13⟩)
                | (go_at_call 12; refine (HP2.out _ (by repeat (first | with_reducible exact RowKit.Below.refl _ _ | with_reducible exact HB1.out | with_reducible refine below_drewN ?_ _ | with_reducible refine RowKit.Below.drew ?_))).mono ?_; rintro e v4 ⟨rfl, ⟨fs', HX⟩, h0, h1, h2, h3, h4, h5, h6, h7, h8, h9, h10, h11, h12, h13⟩))
            go_wp2
            go_roundw
            case rel => exact ⟨j + 1, fs', by omega, by go_num, HX⟩
            case measure => simp [intOf]; omega
          · have k2 : ¬ (j : Int) < (len : Int) := by omega
            go_wp2_with fail
            go_quiet (fail)
            go_wp2
            go_roundw
            case rel => exact ⟨j + 1, fs, by omega, by go_num, Lib.hid ⟨⟨HJ.out.1.q, below_drewN HJ.out.1.b _, HJ.out.1.tags, HJ.out.1.a.below HJ.out.1.q.lt (below_drewN (Below.refl _ _) _)⟩, HJ.out.2.1.below HJ.out.1.q.lt (below_drewN (Below.refl _ _) _), HJ.out.2.2.below HJ.out.1.q.lt (below_drewN (Below.refl _ _) _)⟩⟩
            case measure => simp [intOf]; omega
        · have k1 : ¬ (j : Int) < (N : Int) := by omega
          go_wp2_with fail
          have HQ0 := Lib.hid HJ.out.1; clear HJ
          go_loopw [14] (fun i wr => ∃ (m : Nat), m ≤ N ∧ i = .int .i64 m ∧ Hid (Fill B A c s t n w wr fs N N)) (fun i _ => N - (intOf i).toNat)
          case atStart => exact ⟨0, by omega, rfl, HQ0⟩
          case round =>
            clear HQ0
            obtain ⟨m, hm, rfl, HM⟩ := hrel
            by_cases hmN : m < N
            · have k3 : (m : Int) < (N : Int) := by omega
              obtain ⟨kk, hkk, hidx⟩ := HM.out.tags.some hmN
              go_wp2_with fail
              refine (get_yes B B fs N m _ kk hkk HM.out.q hidx).mono ?_
              rintro e w6 ⟨rfl, hb6⟩
              have hb7 := hb6.alloc hb6.size (.cells (cellsE fs[kk].c fs[kk].s fs[kk].t fs[kk].n fs[kk].g) 35 (0, 0))
              have HM7 := Lib.hid (Fill.mk (HM.out.q.below hb7) (HM.out.b.trans (hb7.mono HM.out.b.size)) HM.out.tags (HM.out.a.below HM.out.q.lt hb7))
              clear hb6 hb7 hidx
              generalize (fs[kk]'hkk) = x at HM7 ⊢
              obtain ⟨xc, xs, xt, xn, xg⟩ := x
              go_wp2
              go_roundw
              case rel => exact ⟨m + 1, by omega, by go_num, HM7⟩
              case measure => simp [intOf]; omega
            · have k3 : ¬ (m : Int) < (N : Int) := by omega
              go_wp2_with fail
              refine (live_any _).mono ?_
              rintro e w8 ⟨rfl, hb8⟩
              have hl := len_any B B fs N w8 (HM.out.q.below hb8)
              rw [HM.out.tags.len] at hl
              have HL := Lib.hid hl; clear hl
              have HB8 := Lib.hid (HM.out.b.trans (hb8.mono HM.out.b.size)); clear hb8
              go_wp2_with (go_at_call 22; refine HL.out.mono ?_; rintro e w' ⟨rfl, rfl⟩)
              go_ret
              exact ⟨rfl, HB8.out⟩

end Go.Proofs.Ytkpjfmlhjpbdhaa
