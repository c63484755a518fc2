/- Lemmas about worlds and endings that every contract of this seat uses; no program in sight. -/
import Derived.WalkKit
import Derived.WalkLawsBesides
import Derived.WalkSpells
import Derived.Lib.Hide
import Derived.IntWalk
import Derived.Sort.Grow
import Derived.Below
import Derived.WalkSmall
namespace Go.Proofs.Ytkpjfmlhjpbdhaa
open Go.RowKit

/-- What a call that only draws and makes memory of its own leaves behind. -/
def Ext (w w' : World) : Prop := ∃ q os, w' = Go.Sort.grow (w.drewN q) os

theorem grow_drewN (w : World) (os : Array Obj) (q : Nat) : (Go.Sort.grow w os).drewN q = Go.Sort.grow (w.drewN q) os := rfl

theorem Ext.refl (w : World) : Ext w w := ⟨0, #[], by rw [Go.Sort.grow_empty]; rfl⟩
theorem Ext.trans {a b c : World} (h : Ext a b) (k : Ext b c) : Ext a c := by
  obtain ⟨q, os, rfl⟩ := h
  obtain ⟨q', os', rfl⟩ := k
  exact ⟨q + q', os ++ os', by rw [grow_drewN, Go.Sort.grow_grow, World.drewN_drewN]⟩
theorem Ext.alloc {a w : World} (h : Ext a w) (o : Obj) : Ext a (w.alloc o) :=
  h.trans ⟨0, #[o], by rw [Go.Sort.alloc_eq_grow]; rfl⟩
theorem Ext.drewN {a w : World} (h : Ext a w) (q : Nat) : Ext a (w.drewN q) := h.trans ⟨q, #[], by simp⟩
theorem Ext.drew {a w : World} (h : Ext a w) : Ext a w.drew := h.drewN 1
theorem Ext.size {a w : World} (h : Ext a w) : a.heap.size ≤ w.heap.size := by
  obtain ⟨q, os, rfl⟩ := h
  show a.heap.size ≤ (a.heap ++ os).size
  rw [Array.size_append]; omega
theorem Ext.setCell {a w : World} (h : Ext a w) {p : Addr} (hp : a.heap.size ≤ p.block) (u : Value) : Ext a (w.setCell p u) := by
  obtain ⟨q, os, rfl⟩ := h
  refine ⟨q, (({ a with heap := os } : World).setCell ⟨p.block - a.heap.size, p.off, p.spot⟩ u).heap, ?_⟩
  have e : ∀ f : Obj → Obj, (a.heap ++ os).modify p.block f = a.heap ++ os.modify (p.block - a.heap.size) f := by
    intro f
    apply Array.ext_getElem?
    intro i
    rw [Array.getElem?_modify]
    by_cases hi : i < a.heap.size
    · rw [if_neg (by omega), Array.getElem?_append_left hi, Array.getElem?_append_left hi]
    · rw [Array.getElem?_append_right (by omega), Array.getElem?_append_right (by omega), Array.getElem?_modify]
      by_cases hj : p.block = i
      · subst hj; simp
      · rw [if_neg hj, if_neg (by omega)]
  unfold World.setCell Go.Sort.grow
  dsimp only [World.heap_drewN]
  rw [e]
theorem Ext.below {a w : World} (h : Ext a w) : Below a.heap.size a w := by
  obtain ⟨q, os, rfl⟩ := h
  refine ⟨rfl, rfl, rfl, Ext.size ⟨q, os, rfl⟩, fun k hk => ?_⟩
  show (a.heap ++ os)[k]? = _
  rw [Array.getElem?_append_left hk]

theorem cell_grow {w : World} {os : Array Obj} {a : Addr} (h : a.block < w.heap.size) : (Go.Sort.grow w os).cell? a = w.cell? a :=
  World.cell?_of_block (by show (w.heap ++ os)[a.block]? = _; rw [Array.getElem?_append_left h])
theorem frozen_grow {w : World} {os : Array Obj} {a : Addr} (h : a.block < w.heap.size) : (Go.Sort.grow w os).frozen? a = w.frozen? a :=
  World.frozen?_of_block (by show (w.heap ++ os)[a.block]? = _; rw [Array.getElem?_append_left h])
theorem size_grow (w : World) (os : Array Obj) : (Go.Sort.grow w os).heap.size = w.heap.size + os.size := by
  show (w.heap ++ os).size = _
  rw [Array.size_append]

theorem cell_lt {w : World} {b i : Nat} {v : Value} (h : w.cell? ⟨b, i, none⟩ = some v) : b < w.heap.size := World.block_lt_of_cell? w ⟨b, i, none⟩ h
theorem cell_alloc {w : World} {o : Obj} {b i : Nat} {v : Value} (h : w.cell? ⟨b, i, none⟩ = some v) : (w.alloc o).cell? ⟨b, i, none⟩ = some v :=
  (World.cell?_alloc_lt w o ⟨b, i, none⟩ (cell_lt h)).trans h
theorem cell_drewN {w : World} {n b i : Nat} {v : Value} (h : w.cell? ⟨b, i, none⟩ = some v) : (w.drewN n).cell? ⟨b, i, none⟩ = some v := h
theorem cell_drew {w : World} {b i : Nat} {v : Value} (h : w.cell? ⟨b, i, none⟩ = some v) : w.drew.cell? ⟨b, i, none⟩ = some v := h
theorem cell_below {w w1 : World} {b i : Nat} {v : Value} (hb : Below w.heap.size w w1) (h : w.cell? ⟨b, i, none⟩ = some v) : w1.cell? ⟨b, i, none⟩ = some v :=
  (hb.cell (p := ⟨b, i, none⟩) (cell_lt h)).trans h
theorem cell_ext {w w1 : World} {b i : Nat} {v : Value} (hb : Ext w w1) (h : w.cell? ⟨b, i, none⟩ = some v) : w1.cell? ⟨b, i, none⟩ = some v := cell_below hb.below h
theorem cell_set {w : World} {p : Addr} {u : Value} {b i : Nat} {v : Value} (hne : p.block ≠ b) (h : w.cell? ⟨b, i, none⟩ = some v) : (w.setCell p u).cell? ⟨b, i, none⟩ = some v :=
  (World.cell?_of_block (Below.heap_setCell w p u b (fun e => hne e.symm))).trans h

theorem fz_alloc {w : World} {o : Obj} {b i j : Nat} {v : Value} (hc : w.cell? ⟨b, j, none⟩ = some v) (h : w.frozen? ⟨b, i, none⟩ = false) : (w.alloc o).frozen? ⟨b, i, none⟩ = false :=
  (World.frozen?_of_block (Below.heap_alloc w o b (cell_lt hc))).trans h
theorem fz_grown {w w' : World} {row : Option Nat} {b i j : Nat} {v : Value} (hg : w.grownBy w' row) (hc : w.cell? ⟨b, j, none⟩ = some v) (h : w.frozen? ⟨b, i, none⟩ = false) (hne : some b ≠ row) : w'.frozen? ⟨b, i, none⟩ = false :=
  (World.frozen?_of_block (hg.block b (cell_lt hc) hne)).trans h
theorem cell_grown {w w' : World} {row : Option Nat} {b i : Nat} {v : Value} (hg : w.grownBy w' row) (h : w.cell? ⟨b, i, none⟩ = some v) (hne : some b ≠ row) : w'.cell? ⟨b, i, none⟩ = some v :=
  hg.cell (a := ⟨b, i, none⟩) h hne

theorem ret_int {k : IntKind} {a b : Int} (h : a = b) : Ending.returned (.int k a) = .returned (.int k b) := by rw [h]
theorem ret_bool {a b : Bool} (h : a = b) : Ending.returned (.bool a) = .returned (.bool b) := by rw [h]

theorem bcell {W w1 : World} (hb : Below W.heap.size W w1) : (∀ b o, b < W.heap.size → w1.cell? ⟨b, o, none⟩ = W.cell? ⟨b, o, none⟩) ∧ (∀ b o, b < W.heap.size → w1.frozen? ⟨b, o, none⟩ = W.frozen? ⟨b, o, none⟩) :=
  ⟨fun b o h => hb.cell (p := ⟨b, o, none⟩) h, fun b o h => hb.frozen (p := ⟨b, o, none⟩) h⟩

theorem below_drewN {B : Nat} {a w : World} (h : Below B a w) (q : Nat) : Below B a (w.drewN q) :=
  ⟨h.os, h.tape, h.output, h.size, h.block⟩

/-- 'cmp.Compare' of whole numbers. -/
def cmpI (a b : Int) : Int := if a < b then -1 else if b < a then 1 else 0
end Go.Proofs.Ytkpjfmlhjpbdhaa
