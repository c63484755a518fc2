/- Contracts: slices.Delete of one entry. -/
import Derived.Test.YtkpjfmlhjpbdhaaQput
import Derived.Deep.RegionLaw
import Derived.Lib.SliceRun
namespace Go.Proofs.Ytkpjfmlhjpbdhaa
open Go.RowKit Go.Lib Go.Sort

def setL {α : Type} : List α → Nat → List α → List α
  | l, _, [] => l
  | l, o, v :: r => setL (l.set o v) (o + 1) r

theorem setL_eq {α : Type} (vs : List α) : ∀ (l : List α) (o : Nat), o + vs.length ≤ l.length → setL l o vs = l.take o ++ vs ++ l.drop (o + vs.length) := by
  induction vs with
  | nil => intro l o _; simp [setL]
  | cons v r ih =>
    intro l o h
    simp only [List.length_cons] at h
    rw [setL, ih _ _ (by simp; omega)]
    have h1 : (l.set o v).take (o + 1) = l.take o ++ [v] := by
      rw [List.take_succ_eq_append_getElem (by simp; omega)]
      simp [List.take_set_of_le]
    have h2 : (l.set o v).drop (o + 1 + r.length) = l.drop (o + (v :: r).length) := by
      rw [List.drop_set_of_lt (by omega)]
      simp only [List.length_cons]
      congr 1; omega
    rw [h1, h2]
    simp

theorem blk_setCells (b : Nat) (vs : List Value) : ∀ (o : Nat) (w : World) (cur : List Value) (e : TypeId), w.heap[b]? = some (.cells cur.toArray e (0, 0)) → (w.setCells b o vs).heap[b]? = some (.cells (setL cur o vs).toArray e (0, 0)) := by
  induction vs with
  | nil => intro o w cur e h; exact h
  | cons v r ih =>
    intro o w cur e h
    rw [World.setCells, setL]
    refine ih _ _ _ _ ?_
    simp only [World.setCell, Array.getElem?_modify, if_true, h, Option.map_some]
    simp

theorem blk_setCells_other (b k : Nat) (hk : k ≠ b) (vs : List Value) : ∀ (o : Nat) (w : World), (w.setCells b o vs).heap[k]? = w.heap[k]? := by
  induction vs with
  | nil => intro o w; rfl
  | cons v r ih =>
    intro o w
    rw [World.setCells, ih]
    exact Below.heap_setCell _ _ _ _ hk

theorem size_setCells' (b : Nat) (vs : List Value) : ∀ (o : Nat) (w : World), (w.setCells b o vs).heap.size = w.heap.size ∧ (w.setCells b o vs).os = w.os ∧ (w.setCells b o vs).tape = w.tape ∧ (w.setCells b o vs).output = w.output := by
  induction vs with
  | nil => intro o w; exact ⟨rfl, rfl, rfl, rfl⟩
  | cons v r ih =>
    intro o w
    rw [World.setCells]
    obtain ⟨h1, h2, h3, h4⟩ := ih (o + 1) (w.setCell ⟨b, o, none⟩ v)
    exact ⟨by rw [h1]; simp, h2, h3, h4⟩

theorem grown_setCells (w : World) (b o : Nat) (vs : List Value) : w.grownBy (w.setCells b o vs) (some b) := by
  obtain ⟨h1, h2, h3, h4⟩ := size_setCells' b vs o w
  exact ⟨h2, h3, h4, Nat.le_of_eq h1.symm, fun k _ hne => blk_setCells_other b k (fun e => hne (by rw [e])) vs o w⟩

theorem encs_append (a b : List Ent) : encs (a ++ b) = encs a ++ encs b := by rw [encs, List.flatMap_append]

theorem encs_take (es : List Ent) (k : Nat) (hk : k ≤ es.length) : (encs es).take (k * 5) = encs (es.take k) := by
  have h : encs es = encs (es.take k) ++ encs (es.drop k) := by rw [← encs_append, List.take_append_drop]
  rw [h, List.take_left' (by rw [encs_length]; simp; omega)]

/-- What the row holds behind the two runs of stores of a Delete. -/
theorem del_row {w : World} {base b cap : Nat} {cur : Array Value} {es : List Ent} {k : Nat} (hk : k < es.length) (hb : base ≤ b)
    (hh : w.heap[b]? = some (.cells cur 35 (0, 0))) (hcap : es.length ≤ cap) (hm : cap ≤ maxLen) (hs : cur.size = cap * 5) (ht : cur.toList.take (es.length * 5) = encs es) (z : List Value) (hz : z.length = 5) :
    IsRow ((w.setCells b (k * 5) (encs (es.drop (k + 1)))).setCells b ((k + (es.length - (k + 1))) * 5) z) base (.slice (some ⟨b, 0, none⟩) (k + (es.length - (k + 1))) cap) (es.eraseIdx k) ∧
      w.grownBy ((w.setCells b (k * 5) (encs (es.drop (k + 1)))).setCells b ((k + (es.length - (k + 1))) * 5) z) (some b) := by
  have hl : (es.eraseIdx k).length = k + (es.length - (k + 1)) := by rw [List.length_eraseIdx_of_lt hk]; omega
  have hM : (encs (es.drop (k + 1))).length = (es.length - (k + 1)) * 5 := by rw [encs_length]; simp
  have hcl : cur.toList.length = cap * 5 := by simpa using hs
  have h1 := blk_setCells b (encs (es.drop (k + 1))) (k * 5) w cur.toList 35 (by simpa using hh)
  have h2 := blk_setCells b z ((k + (es.length - (k + 1))) * 5) _ _ _ h1
  have e1 := setL_eq (encs (es.drop (k + 1))) cur.toList (k * 5) (by rw [hM, hcl]; omega)
  have hl1 : (setL cur.toList (k * 5) (encs (es.drop (k + 1)))).length = cap * 5 := by rw [e1]; simp [hM]; omega
  have e2 := setL_eq z (setL cur.toList (k * 5) (encs (es.drop (k + 1)))) ((k + (es.length - (k + 1))) * 5) (by rw [hl1, hz]; omega)
  refine ⟨⟨encs_length _ |>.trans (by rw [hl]), .inr ⟨b, cap, _, by rw [hl], hb, h2, by rw [hl]; omega, hm, ?_, ?_⟩⟩, ?_⟩
  · rw [List.size_toArray, e2]; simp [hl1, hz]; omega
  · rw [hl]
    show (setL _ _ _).take _ = _
    rw [e2, List.append_assoc, List.take_append_of_le_length (by rw [List.length_take, hl1]; omega), List.take_take, Nat.min_self]
    rw [e1, List.append_assoc]
    have hk1 : (cur.toList.take (k * 5)) = encs (es.take k) := by
      rw [← encs_take es k (by omega), ← ht, List.take_take]
      congr 1; omega
    rw [hk1, ← List.append_assoc, ← encs_append, List.take_left' (by rw [encs_length]; simp; omega), ← List.eraseIdx_eq_take_drop_succ]
  · exact ⟨by rw [(size_setCells' b _ _ _).2.1, (size_setCells' b _ _ _).2.1], by rw [(size_setCells' b _ _ _).2.2.1, (size_setCells' b _ _ _).2.2.1], by rw [(size_setCells' b _ _ _).2.2.2, (size_setCells' b _ _ _).2.2.2],
      by rw [(size_setCells' b _ _ _).1, (size_setCells' b _ _ _).1]; exact Nat.le_refl _,
      fun j _ hne => by rw [blk_setCells_other b j (fun e => hne (by rw [e])), blk_setCells_other b j (fun e => hne (by rw [e]))]⟩

theorem clear_one (w : World) (b o c : Nat) (ty : TypeId) (hc : ∀ j, j < 5 → (w.cell? ⟨b, o + j, none⟩).isSome = true) (hf : ∀ j, j < 5 → w.frozen? ⟨b, o + j, none⟩ = false) :
    (Builtin.clear_ #[68] ty #[.slice (some ⟨b, o, none⟩) 1 c]).run Try.prog w = .ok (.tuple #[]) (w.setCells b o [.int .i64 0, .int .i64 0, .int .i64 0, .int .i64 0, .int .i64 0]) := by
  have hst := run_storeCells_cells (P := Try.prog) b o [.int .i64 0, .int .i64 0, .int .i64 0, .int .i64 0, .int .i64 0] 0 w (by simpa using hc) (by simpa using hf) (by intro v hv; simp at hv; subst hv; rfl)
  simp only [Nat.add_zero] at hst
  have hzc : (Builtin.zeroCells (Value.agg #[.int .i64 0, .int .i64 0, .int .i64 0, .int .i64 0, .int .i64 0]).cells 1).toList = [.int .i64 0, .int .i64 0, .int .i64 0, .int .i64 0, .int .i64 0] := by kernel_rfl
  simp [Builtin.clear_, run_underlying Try.underlying68, Try.zeroValue35, hzc, hst, Result.andThen, -Array.toList_map]

set_option maxHeartbeats 1600000 in
set_option maxRecDepth 1000000 in
theorem delete_any (base b cap : Nat) (cur : Array Value) (es : List Ent) (k : Nat) (w : World) (hk : k < es.length) (hb : base ≤ b) (hh : w.heap[b]? = some (.cells cur 35 (0, 0))) (hcap : es.length ≤ cap) (hm : cap ≤ maxLen) (hs : cur.size = cap * 5)
    (ht : cur.toList.take (es.length * 5) = encs es) :
    Calls Try.prog 34 #[.slice (some ⟨b, 0, none⟩) es.length cap, .int .i64 k, .int .i64 (k + 1)] w fun e w' =>
      e = .returned (.slice (some ⟨b, 0, none⟩) (k + (es.length - (k + 1))) cap) ∧ IsRow w' base (.slice (some ⟨b, 0, none⟩) (k + (es.length - (k + 1))) cap) (es.eraseIdx k) ∧ w.grownBy w' (some b) := by
  have hmm := hm
  unfold maxLen at hm
  obtain ⟨i0, hi0, hz0, hz1, hz2⟩ := info_parts infoE
  have hM : (encs (es.drop (k + 1))).length = (es.length - (k + 1)) * 5 := by rw [encs_length]; simp
  have hcl : cur.toList.length = cap * 5 := by simpa using hs
  have hall : ∀ j, j < cap * 5 → (w.cell? ⟨b, j, none⟩).isSome = true := by
    intro j hj
    simp [World.cell?, hh, hs, hj]
  have hfz : ∀ j, w.frozen? ⟨b, j, none⟩ = false := fun j => frozen_in hh
  obtain ⟨A, hA, hnews⟩ : ∃ A : Addr, (if cap = k + 1 then some (⟨b, 0, none⟩ : Addr) else some ⟨b, (k + 1) * 5, none⟩) = some A ∧ Hid (∀ j u, (encs (es.drop (k + 1)))[j]? = some u → w.drew.cell? (A.add j) = some u) := by
    by_cases h : cap = k + 1
    · refine ⟨⟨b, 0, none⟩, by simp [h], fun j u hu => ?_⟩
      have h0 : (encs (es.drop (k + 1))).length = 0 := by rw [hM]; omega
      rw [List.length_eq_zero_iff.1 h0] at hu
      simp at hu
    · refine ⟨⟨b, (k + 1) * 5, none⟩, by simp [h], fun j u hu => ?_⟩
      rw [Addr.add_lit]
      refine row_cells (cap := cap) hh ht _ _ ?_
      have e : encs es = encs (es.take (k + 1)) ++ encs (es.drop (k + 1)) := by rw [← encs_append, List.take_append_drop]
      rw [e, List.getElem?_append_right (by rw [encs_length]; simp; omega), encs_length, List.length_take, Nat.min_eq_left (by omega), Nat.add_sub_cancel_left]
      exact hu
  have s1 : Hid ((encs (es.drop (k + 1))).length = (es.length - (k + 1)) * 5) := hM
  have s2 : Hid (∀ u ∈ encs (es.drop (k + 1)), u.oneCell' = true) := by
    intro u hu
    obtain ⟨x, _, hx⟩ := List.mem_flatMap.1 hu
    simp [Ent.enc] at hx
    rcases hx with rfl | rfl | rfl | rfl | rfl <;> rfl
  have s3 : Hid (∀ j, j < (encs (es.drop (k + 1))).length → (w.drew.cell? ⟨b, 0 + k * 5 + j, none⟩).isSome = true ∧ w.drew.frozen? ⟨b, 0 + k * 5 + j, none⟩ = false) := by
    intro j hj
    rw [hM] at hj
    exact ⟨hall _ (by omega), hfz _⟩
  have hW := fun z (hz : z.length = 5) => del_row hk hb (w := w.drew) (cap := cap) (cur := cur) hh hcap hmm hs ht z hz
  obtain ⟨W1, hW1⟩ : ∃ W1, W1 = w.drew.setCells b (k * 5) (encs (es.drop (k + 1))) := ⟨_, rfl⟩
  have hW1' : W1 = w.drew.setCells b (0 + k * 5) (encs (es.drop (k + 1))) := by rw [Nat.zero_add]; exact hW1
  have hcl1 : ∀ ty, (Builtin.clear_ #[68] ty #[.slice (some ⟨b, (k + (es.length - (k + 1))) * 5, none⟩) 1 (cap - (k + (es.length - (k + 1))))]).run Try.prog W1 = .ok (.tuple #[]) (W1.setCells b ((k + (es.length - (k + 1))) * 5) [.int .i64 0, .int .i64 0, .int .i64 0, .int .i64 0, .int .i64 0]) := by
    intro ty
    have h1 := blk_setCells b (encs (es.drop (k + 1))) (k * 5) w.drew cur.toList 35 (by show w.heap[b]? = _; simpa using hh)
    have e1 := setL_eq (encs (es.drop (k + 1))) cur.toList (k * 5) (by rw [hM, hcl]; omega)
    have hl1 : (setL cur.toList (k * 5) (encs (es.drop (k + 1)))).length = cap * 5 := by rw [e1]; simp [hM]; omega
    rw [← hW1] at h1
    refine clear_one W1 b _ _ ty (fun j hj => ?_) (fun j hj => frozen_in h1)
    simp only [World.cell?, h1]
    simp
    rw [hl1]; omega
  rw [← hW1] at hW
  have HW := Lib.hid hW; clear hW
  have HW1 := Lib.hid hW1'; clear hW1 hW1'
  have HC1 := Lib.hid hcl1; clear hcl1
  clear hall hfz hM hcl hh ht hs hmm
  generalize hn : es.length = n at *
  have HN := Lib.hid hn; clear hn
  generalize encs (es.drop (k + 1)) = M at *
  have hwr : IntKind.i64.wrap ((k : Int) + 1) = (k : Int) + 1 := by rw [IntKind.wrap_i64]; omega
  have hp0 : (0 : Int) ≤ (k : Int) + 1 := by omega
  have hp1 : (k : Int) + 1 ≤ (n : Int) := by omega
  have hp2 : ((k : Int) + 1).toNat = k + 1 := by omega
  have hp3 : ((k : Int) == (k : Int) + 1) = false := by rw [beq_eq_false_iff_ne]; omega
  have hkc : k ≤ cap := by omega
  have hkc1 : k + 1 ≤ cap := by omega
  go_enter Try.func34, Try.ntmps34
  go_wp2_with fail
  go_region_law (refine step_append_room rfl (.tmp 22) (.tmp 25) 68 rfl 35 i0 5 Try.underlying68 hi0 hz1 b 0 k cap (by simp [Act.eval, Act.put]) A (n - (k + 1)) (cap - (k + 1)) M (by simp [Act.eval, Act.put]) s1.out hnews.out s2.out (by omega) s3.out ?_; rw [← HW1.out])
  have hcl := HC1.out
  have hl1 : n - (k + (n - (k + 1))) = 1 := by omega
  go_wp2
  go_ret
  obtain ⟨g1, g2⟩ := HW.out [.int .i64 0, .int .i64 0, .int .i64 0, .int .i64 0, .int .i64 0] rfl
  exact ⟨rfl, g1, ⟨g2.os, g2.tape, g2.output, g2.size, g2.block⟩⟩

end Go.Proofs.Ytkpjfmlhjpbdhaa
