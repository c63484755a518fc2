/- Contracts: giving an entry another label, where both can be; and which blocks are turned. -/
import Derived.Test.YtkpjfmlhjpbdhaaMine
namespace Go.Proofs.Ytkpjfmlhjpbdhaa
open Go.RowKit Go.Lib Go.Sort
attribute [local go_sem ↓] Go.wp_at_zero Go.wp_at_succ

theorem label_sortm {w : World} {base B b cap : Nat} {cur : Array Value} {es : List Ent} {k : Nat} {room c s t n : Int} (hk : k < es.length) (hb : base ≤ b) (hbB : base ≤ B)
    (hB : w.heap[B]? = some (.cells #[.slice (some ⟨b, 0, none⟩) es.length cap, .int .i64 room] 70 (0, 0)))
    (hh : w.heap[b]? = some (.cells cur 35 (0, 0))) (hcap : es.length ≤ cap) (hm : cap ≤ maxLen) (hs : cur.size = cap * 5) (ht : cur.toList.take (es.length * 5) = encs es) (hsz : es.length < 1000000) :
    Calls Try.prog 29 #[.slice (some ⟨b, 0, none⟩) es.length cap] (w.setCells b (k * 5) [.int .i64 c, .int .i64 s, .int .i64 t, .int .i64 n]) fun e w' =>
      e = .returned (.tuple #[]) ∧ ∃ es', es'.Perm (es.set k ((es[k]).lab c s t n)) ∧ Sorted es' ∧ IsQ w' base B es' room ∧ Chg base [35, 70] w w' ∧ Mine B w w' := by
  have hBl0 : B < w.heap.size := (Array.getElem?_eq_some_iff.1 hB).1
  have hr0 : rowOf w B = some b := by rw [rowOf_is hB]; rfl
  have hne : B ≠ b := by rintro rfl; rw [hB] at hh; cases hh
  have hcl : cur.toList.length = cap * 5 := by simpa using hs
  have h1 := blk_setCells b [.int .i64 c, .int .i64 s, .int .i64 t, .int .i64 n] (k * 5) w cur.toList 35 (by simpa using hh)
  have e1 := setL_eq [.int .i64 c, .int .i64 s, .int .i64 t, .int .i64 n] cur.toList (k * 5) (by rw [hcl]; simp; omega)
  have hl1 : (setL cur.toList (k * 5) [.int .i64 c, .int .i64 s, .int .i64 t, .int .i64 n]).length = cap * 5 := by rw [e1]; simp [hs]; omega
  have ht1 : (setL cur.toList (k * 5) [.int .i64 c, .int .i64 s, .int .i64 t, .int .i64 n]).take (es.length * 5) = encs (es.set k ((es[k]).lab c s t n)) := by
    rw [← encs_set es k hk, ← ht, setL_take]
  have hl : (es.set k ((es[k]).lab c s t n)).length = es.length := by simp
  have hc := sort_any base b cap (setL cur.toList (k * 5) [.int .i64 c, .int .i64 s, .int .i64 t, .int .i64 n]).toArray (es.set k ((es[k]).lab c s t n)) _ hb h1 (by rw [hl]; exact hcap) hm (by simpa using hl1) (by rw [hl]; simpa using ht1) (by rw [hl]; omega)
  rw [hl] at hc
  refine hc.mono ?_
  rintro e w' ⟨he, es', hl', hp, hsd, hr, hgr⟩
  have hB1 : (w.setCells b (k * 5) [.int .i64 c, .int .i64 s, .int .i64 t, .int .i64 n]).heap[B]? = some (.cells #[.slice (some ⟨b, 0, none⟩) es.length cap, .int .i64 room] 70 (0, 0)) := by
    rw [blk_setCells_other b B hne]; exact hB
  refine ⟨he, es', hp, hsd, ⟨_, hbB, ?_, by rw [← hl'] at hr; rw [hl'] at hr; exact hr⟩, (Chg.grown (grown_setCells _ _ _ _) hh (by simp) hb).trans (Chg.grown hgr h1 (by simp) hb), ((Mine.refl B w).grown hBl0 (grown_setCells _ _ _ _) (fun k e => by cases e; exact ⟨fun e => hne e.symm, .inl hr0⟩)).grown hBl0 hgr (fun k e => by cases e; exact ⟨fun e => hne e.symm, .inl hr0⟩)⟩
  rw [hgr.block B (Array.getElem?_eq_some_iff.1 hB1).1 (fun e => hne (Option.some.inj e))]
  exact hB1

set_option maxHeartbeats 2000000 in
set_option maxRecDepth 100000 in
theorem label_okm (base B : Nat) (es : List Ent) (room g c s t n : Int) (k : Nat) (w : World) (hk : k < es.length) (hsz : es.length < 1000000) (hq : IsQ w base B es room) (hg : idxT g es 0 = k) (hr : lright c s t n = true) : Calls Try.prog 12 #[.pointer (some ⟨B, 0, none⟩), .int .i64 g, labV c s t n] w fun e w' =>
    e = .returned (.int .i64 0) ∧ ∃ es', es'.Perm (es.set k ((es[k]).lab c s t n)) ∧ Sorted es' ∧ IsQ w' base B es' room ∧ Chg base [35, 70] w w' ∧ Mine B w w' := by
  have hcon := fun W (hW : Below w.heap.size w W) => at_any base B es room g W (hq.below hW)
  rw [hg] at hcon
  have hR := cright_any c s t n
  rw [hr] at hR
  obtain ⟨v, hbB, hhB, hrow⟩ := id hq
  obtain ⟨_, ⟨e', h0⟩ | ⟨b, cap, cur, rfl, hb, hh, hcap, hm, hs, ht⟩⟩ := id hrow
  · omega
  have hne : B ≠ b := by rintro rfl; rw [hhB] at hh; cases hh
  have hbl : b < w.heap.size := (Array.getElem?_eq_some_iff.1 hh).1
  have hBl : B < w.heap.size := (Array.getElem?_eq_some_iff.1 hhB).1
  have hsort := fun W (hW : Below w.heap.size w W) => label_sortm (c := c) (s := s) (t := t) (n := n) hk hb hbB (below_cells hW hhB) (below_cells hW hh) hcap hm hs ht hsz
  have hcl : cur.toList.length = cap * 5 := by simpa using hs
  have hfacts : ∀ W, Below w.heap.size w W → W.cell? ⟨B, 0, none⟩ = some (.slice (some ⟨b, 0, none⟩) es.length cap) ∧ (∃ v0 v1 v2 v3, W.cell? ⟨b, k * 5, none⟩ = some v0 ∧ W.cell? ⟨b, k * 5 + 1, none⟩ = some v1 ∧ W.cell? ⟨b, k * 5 + 2, none⟩ = some v2 ∧ W.cell? ⟨b, k * 5 + 3, none⟩ = some v3) ∧ (∀ i, W.frozen? ⟨b, i, none⟩ = false) := by
    intro W hW
    have hhW := below_cells hW hh
    refine ⟨cell_in (below_cells hW hhB) rfl, ⟨cur[k * 5]'(by omega), cur[k * 5 + 1]'(by omega), cur[k * 5 + 2]'(by omega), cur[k * 5 + 3]'(by omega), ?_, ?_, ?_, ?_⟩, fun i => frozen_in hhW⟩ <;> exact cell_in hhW (Array.getElem?_eq_getElem _)
  clear hrow hh hhB ht hs hcl hq hg hr
  have hmm := hm
  unfold maxLen at hmm
  have HC := Lib.hid hcon; clear hcon
  have HR := Lib.hid hR; clear hR
  have HS := Lib.hid hsort; clear hsort
  have HFA := Lib.hid hfacts; clear hfacts
  generalize es.set k ((es[k]).lab c s t n) = es1 at *
  generalize hnn : es.length = m at *
  have HN := Lib.hid hnn; clear hnn
  go_enter Try.func12, Try.ntmps12
  go_wp2_with fail
  refine (HC.out _ ((Below.refl _ _).alloc (Nat.le_refl _) _)).mono ?_
  rintro e w1 ⟨rfl, hE⟩
  obtain ⟨hc, hf⟩ := bcell hE
  have x0 : w1.cell? ⟨w.heap.size, 0, none⟩ = some (.int .i64 c) := by rw [hc _ _ (by simp)]; simp
  have x1 : w1.cell? ⟨w.heap.size, 1, none⟩ = some (.int .i64 s) := by rw [hc _ _ (by simp)]; simp
  have x2 : w1.cell? ⟨w.heap.size, 2, none⟩ = some (.int .i64 t) := by rw [hc _ _ (by simp)]; simp
  have x3 : w1.cell? ⟨w.heap.size, 3, none⟩ = some (.int .i64 n) := by rw [hc _ _ (by simp)]; simp
  have hb1 := ((Below.refl w.heap.size w).alloc (Nat.le_refl _) (.cells #[.int .i64 c, .int .i64 s, .int .i64 t, .int .i64 n] 33)).trans (hE.mono (by simp))
  have HE := Lib.hid hE; clear hE hc hf
  go_wp2_with fail
  refine (HR.out _).mono ?_
  rintro e w2 ⟨rfl, hE2⟩
  have hb2 := hb1.trans (hE2.below.mono hb1.size)
  have y0 := cell_ext hE2 x0
  have y1 := cell_ext hE2 x1
  have y2 := cell_ext hE2 x2
  have y3 := cell_ext hE2 x3
  obtain ⟨q0, ⟨v0, v1, v2, v3, p0, p1, p2, p3⟩, q1⟩ := HFA.out _ hb2
  have f0 := q1 (k * 5)
  have f1 := q1 (k * 5 + 1)
  have f2 := q1 (k * 5 + 2)
  have f3 := q1 (k * 5 + 3)
  clear x0 x1 x2 x3 q1
  have HE2 := Lib.hid hE2; clear hE2
  have HB2 := Lib.hid hb2; clear hb2 hb1
  have m1 : ¬ b = B := fun e => hne e.symm
  have m2 : ¬ b = w.heap.size := by omega
  have m3 : ¬ B = w.heap.size := by omega
  have hBl' := hBl
  have HBL := Lib.hid hBl'; clear hBl'
  generalize hX : w.heap.size = X at *
  have HX := Lib.hid hX; clear hX
  have k1 : (0 : Int) ≤ (k : Int) := by omega
  have k2 : (k : Int) < (m : Int) := by omega
  go_wp2
  go_region
  have hso := HS.out w2.drew HB2.out.drew
  rw [show w2.drew.setCells b (k * 5) [.int .i64 c, .int .i64 s, .int .i64 t, .int .i64 n] = ((((w2.setCell ⟨b, k * 5, none⟩ (.int .i64 c)).setCell ⟨b, k * 5 + 1, none⟩ (.int .i64 s)).setCell ⟨b, k * 5 + 2, none⟩ (.int .i64 t)).setCell ⟨b, k * 5 + 3, none⟩ (.int .i64 n)).drew from rfl] at hso
  have HSO := Lib.hid hso; clear hso
  go_wp2_with fail
  refine HSO.out.mono ?_
  rintro e w3 ⟨rfl, es', hp, hsd, hq', hcg, hmi⟩
  have HMI := Lib.hid hmi; clear hmi
  have HCG := Lib.hid hcg; clear hcg
  go_wp2
  go_ret
  have h2 : Below w.heap.size w w2.drew := by rw [HX.out]; exact HB2.out.drew
  exact ⟨rfl, es', hp, hsd, hq', (Chg.of_below h2).trans HCG.out, (Mine.of_below (by rw [HX.out]; exact HBL.out) h2).trans HMI.out⟩

end Go.Proofs.Ytkpjfmlhjpbdhaa
