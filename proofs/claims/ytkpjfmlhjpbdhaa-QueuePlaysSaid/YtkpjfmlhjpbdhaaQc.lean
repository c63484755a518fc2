/- Contracts: what a queue is in memory; those of its methods that only read. -/
import Derived.Test.YtkpjfmlhjpbdhaaSortW
import Derived.Test.YtkpjfmlhjpbdhaaChg
namespace Go.Proofs.Ytkpjfmlhjpbdhaa
open Go.RowKit Go.Lib Go.Sort

/-- block B is a queue of these entries, with so much room -/
def IsQ (w : World) (base B : Nat) (es : List Ent) (room : Int) : Prop :=
  ∃ v, base ≤ B ∧ w.heap[B]? = some (.cells #[v, .int .i64 room] 70 (0, 0)) ∧ IsRow w base v es

theorem IsQ.keep {w w' : World} {base base' B : Nat} {es : List Ent} {room : Int} {T : List Nat} (h : IsQ w base B es room) (hc : Chg base' T w w') (h1 : 35 ∉ T) (h2 : 70 ∉ T) : IsQ w' base B es room := by
  obtain ⟨v, hb, hh, hr⟩ := h
  exact ⟨v, hb, hc.cells hh h2, hc.row hr h1⟩
theorem IsQ.below {w w' : World} {base B : Nat} {es : List Ent} {room : Int} (h : IsQ w base B es room) (hc : Below w.heap.size w w') : IsQ w' base B es room :=
  h.keep (Chg.of_below (base := 0) (T := []) hc) (by simp) (by simp)
theorem row_len {w : World} {base : Nat} {v : Value} {es : List Ent} (h : IsRow w base v es) : ∃ a c, v = .slice a es.length c := by
  obtain ⟨_, ⟨rfl, hn⟩ | ⟨b, cap, cur, rfl, _⟩⟩ := h
  · exact ⟨none, 0, by rw [hn]⟩
  · exact ⟨_, _, rfl⟩

theorem new_ok (room : Int) (w : World) (h1 : 1 ≤ room) (h2 : room ≤ 64) : Calls Try.prog 6 #[.int .i64 room] w fun e w' =>
    e = .returned (.tuple #[.pointer (some ⟨w.heap.size, 0, none⟩), .int .i64 0]) ∧ IsQ w' w.heap.size w.heap.size [] room ∧ Below w.heap.size w w' := by
  go_enter Try.func6, Try.ntmps6
  go_wp2
  go_ret2
  exact ⟨rfl, ⟨.slice none 0 0, Nat.le_refl _, heap_alloc_new _ _, World.ownsRow_nil _ _ _ _⟩, (Below.refl _ _).alloc (Nat.le_refl _) _⟩

theorem new_no (room : Int) (w : World) (h : room < 1 ∨ 64 < room) : Calls Try.prog 6 #[.int .i64 room] w fun e w' =>
    e = .returned (.tuple #[.pointer none, .int .i64 1]) ∧ w = w' := by
  by_cases h1 : room < 1
  · go_enter Try.func6, Try.ntmps6
    go_wp2
    go_ret2
    exact ⟨rfl, rfl⟩
  · have h2 : 64 < room := by omega
    go_enter Try.func6, Try.ntmps6
    go_wp2
    go_ret2
    exact ⟨rfl, rfl⟩

theorem at_any (base B : Nat) (es : List Ent) (room g : Int) (w : World) (hq : IsQ w base B es room) : Calls Try.prog 28 #[.pointer (some ⟨B, 0, none⟩), .int .i64 g] w fun e w' =>
    e = .returned (.int .i64 (idxT g es 0)) ∧ Below w.heap.size w w' := by
  obtain ⟨v, hb, hh, hr⟩ := hq
  have hc : w.cell? ⟨B, 0, none⟩ = some v := cell_in hh rfl
  have hcon := find_any base v es g w hr
  clear hr hh
  go_enter Try.func28, Try.ntmps28
  go_wp2_with (go_at_call 40; refine hcon.mono ?_; rintro e w' ⟨rfl, hE⟩)
  go_ret
  exact ⟨rfl, hE⟩

theorem at_nil (g : Int) (w : World) : Calls Try.prog 28 #[.pointer none, .int .i64 g] w fun e w' =>
    e = .returned (.int .i64 (-1)) ∧ w = w' := by
  go_enter Try.func28, Try.ntmps28
  go_wp2
  go_ret
  exact ⟨rfl, rfl⟩

theorem len_any (base B : Nat) (es : List Ent) (room : Int) (w : World) (hq : IsQ w base B es room) : Calls Try.prog 22 #[.pointer (some ⟨B, 0, none⟩)] w fun e w' =>
    e = .returned (.int .i64 es.length) ∧ w = w' := by
  obtain ⟨v, hb, hh, hr⟩ := hq
  obtain ⟨a, c, rfl⟩ := row_len hr
  have hc : w.cell? ⟨B, 0, none⟩ = some (.slice a es.length c) := cell_in hh rfl
  clear hr hh
  go_enter Try.func22, Try.ntmps22
  go_wp2
  go_ret
  exact ⟨rfl, rfl⟩

theorem len_nil (w : World) : Calls Try.prog 22 #[.pointer none] w fun e w' => e = .returned (.int .i64 0) ∧ w = w' := by
  go_enter Try.func22, Try.ntmps22
  go_wp2
  go_ret
  exact ⟨rfl, rfl⟩

theorem room_any (base B : Nat) (es : List Ent) (room : Int) (w : World) (hq : IsQ w base B es room) : Calls Try.prog 26 #[.pointer (some ⟨B, 0, none⟩)] w fun e w' =>
    e = .returned (.int .i64 room) ∧ w = w' := by
  obtain ⟨v, hb, hh, hr⟩ := hq
  have hc : w.cell? ⟨B, 1, none⟩ = some (.int .i64 room) := cell_in hh rfl
  clear hr hh
  go_enter Try.func26, Try.ntmps26
  go_wp2
  go_ret
  exact ⟨rfl, rfl⟩

end Go.Proofs.Ytkpjfmlhjpbdhaa
