/- Contracts: where a tag's entry is. -/
import Derived.Test.YtkpjfmlhjpbdhaaQa
namespace Go.Proofs.Ytkpjfmlhjpbdhaa
open Go.RowKit Go.Lib Go.Sort

/-- the cells of entries, one behind the other -/
abbrev encs (es : List Ent) : List Value := es.flatMap Ent.enc

theorem encs_length (es : List Ent) : (encs es).length = es.length * 5 := by
  induction es with
  | nil => rfl
  | cons a l ih => rw [encs, List.flatMap_cons, List.length_append, ← encs, ih]; simp [Ent.enc]; omega

theorem encs_at (es : List Ent) : ∀ (j : Nat), j < es.length → ∀ i v, (es[j]!).enc[i]? = some v → (encs es)[j * 5 + i]? = some v := by
  induction es with
  | nil => intro j h; simp at h
  | cons a l ih =>
    intro j hj i v hv
    have hi : i < 5 := by
      have := (List.getElem?_eq_some_iff.1 hv).1
      simpa [Ent.enc] using this
    rw [encs, List.flatMap_cons]
    cases j with
    | zero =>
      rw [List.getElem?_append_left (by simp [Ent.enc]; omega)]
      simpa using hv
    | succ j =>
      rw [List.getElem?_append_right (by simp [Ent.enc]; omega)]
      have := ih j (by simpa using hj) i v (by simpa using hv)
      rw [← this]
      congr 1
      simp [Ent.enc]; omega

/-- where a tag's entry is, counted from a number on; -1: nowhere -/
def idxT (g : Int) : List Ent → Nat → Int
  | [], _ => -1
  | e :: l, i => if e.g = g then (i : Int) else idxT g l (i + 1)

theorem idxT_by (g : Int) (es : List Ent) : Lib.idxBy (fun _ y => y.g == g) es default = idxT g es 0 := by
  unfold Lib.idxBy
  generalize 0 = i
  induction es generalizing i with
  | nil => rfl
  | cons a l ih => simp only [Lib.idxByFrom, idxT, beq_iff_eq]; split <;> simp_all

theorem idxNil (B : Nat) (w : World) : Calls Try.prog 47 #[.slice none 0 0, .func (.func 48) #[] #[.pointer (some ⟨B, 0, none⟩)]] w fun e w' => e = .returned (.int .i64 (-1)) ∧ Below w.heap.size w w' := by
  go_enter Try.func47, Try.ntmps47
  go_wp2
  refine wp_loop_rounds 1 ?_
  rw [rounds_succ]
  go_wp2
  go_ret
  exact ⟨rfl, Below.refl _ _⟩

theorem find_any (base : Nat) (v : Value) (es : List Ent) (g : Int) (w : World) (ho : w.ownsRow base 35 5 v es.length (encs es)) :
    Calls Try.prog 40 #[v, .int .i64 g] w fun e w' => e = .returned (.int .i64 (idxT g es 0)) ∧ Below w.heap.size w w' := by
  obtain ⟨hl, ⟨rfl, hn⟩ | ⟨b, cap, cur, rfl, hb, hh, hcap, hm, hs, ht⟩⟩ := ho
  · have : es = [] := List.length_eq_zero_iff.1 hn
    subst this
    clear hl hn
    go_enter Try.func40, Try.ntmps40
    go_wp2_with (go_at_call 47; refine (idxNil _ _).mono ?_; rintro e w' ⟨rfl, hE⟩)
    go_ret
    exact ⟨rfl, ((Below.refl _ _).alloc (Nat.le_refl _) _).trans (hE.mono (by simp))⟩
  · have hlt : b < w.heap.size := (Array.getElem?_eq_some_iff.1 hh).1
    have hcell : ∀ j u, (encs es)[j]? = some u → w.cell? ⟨b, j, none⟩ = some u := by
      intro j u hu
      rw [cell_of_row w b j cur 35 (0, 0) hh]
      rw [← ht, List.getElem?_take] at hu
      split at hu
      · simpa using hu
      · cases hu
    have hcon := fun (W : World) (hW : W = w.alloc (.cells #[.int .i64 g] 3)) => AnyQ.slices_IndexFunc Try.idxE 5 Try.isAgg35 Try.sizeOf35 Ent.enc (fun _ => rfl) (fun y => y.g == g) 48 #[.pointer (some ⟨w.heap.size, 0, none⟩)] (enters_of Try.func48 (by kernel_rfl) rfl) b 0 es.length cap es W
      (fun W' x hb' => find1_any g w.heap.size W W' x (by subst hW; simp) (by subst hW; simp) hb') (Nat.le_refl _) (by unfold maxLen at hm; omega) (by subst hW; simp; omega)
      (fun j hj i u hu => by subst hW; rw [Nat.zero_add]; exact cell_alloc (hcell _ _ (encs_at es j hj i u hu)))
    change ∀ W, _ → Calls Try.prog 47 _ _ _ at hcon
    simp only [List.take_length, idxT_by] at hcon
    clear hcell ht hs hh hm
    have HC := Lib.hid hcon; clear hcon
    go_enter Try.func40, Try.ntmps40
    go_wp2_with (go_at_call 47; refine (HC.out _ rfl).mono ?_; rintro e w' ⟨rfl, hE⟩)
    go_ret
    exact ⟨rfl, ((Below.refl _ _).alloc (Nat.le_refl _) _).trans (hE.mono (by simp))⟩

end Go.Proofs.Ytkpjfmlhjpbdhaa
