/- The order of entries, and what a sort leaves of a row; no program in sight. -/
import Derived.Test.YtkpjfmlhjpbdhaaQb
namespace Go.Proofs.Ytkpjfmlhjpbdhaa
open Go.RowKit Go.Lib Go.Sort

/-- one label is sent ahead of another -/
def ltL (a0 a1 a2 a3 b0 b1 b2 b3 : Int) : Prop := a0 < b0 ∨ (a0 = b0 ∧ (a1 < b1 ∨ (a1 = b1 ∧ (a2 < b2 ∨ (a2 = b2 ∧ a3 < b3)))))

theorem cmpI_lt (a b : Int) : cmpI a b < 0 ↔ a < b := by unfold cmpI; split; · omega
                                                         split <;> omega
theorem cmpI_eq (a b : Int) : cmpI a b = 0 ↔ a = b := by unfold cmpI; split; · omega
                                                         split <;> omega

theorem lexI_iff (a0 a1 a2 a3 b0 b1 b2 b3 : Int) : lexI [a0, a1, a2, a3] [b0, b1, b2, b3] < 0 ↔ ltL a0 a1 a2 a3 b0 b1 b2 b3 := by
  have h0 := cmpI_lt a0 b0
  have h1 := cmpI_lt a1 b1
  have h2 := cmpI_lt a2 b2
  have h3 := cmpI_lt a3 b3
  have e0 := cmpI_eq a0 b0
  have e1 := cmpI_eq a1 b1
  have e2 := cmpI_eq a2 b2
  have e3 := cmpI_eq a3 b3
  unfold ltL
  simp only [lexI]
  generalize cmpI a0 b0 = c0 at *
  generalize cmpI a1 b1 = c1 at *
  generalize cmpI a2 b2 = c2 at *
  generalize cmpI a3 b3 = c3 at *
  by_cases q0 : c0 = 0
  · rw [if_pos q0]
    by_cases q1 : c1 = 0
    · rw [if_pos q1]
      by_cases q2 : c2 = 0
      · rw [if_pos q2]
        by_cases q3 : c3 = 0
        · rw [if_pos q3]; omega
        · rw [if_neg q3]; omega
      · rw [if_neg q2]; omega
    · rw [if_neg q1]; omega
  · rw [if_neg q0]; omega

/-- one entry stands ahead of another -/
def ltE (x y : Ent) : Prop := ltL x.c x.s x.t x.n y.c y.s y.t y.n ∨ (x.c = y.c ∧ x.s = y.s ∧ x.t = y.t ∧ x.n = y.n ∧ x.g < y.g)

/-- the comparison of entries -/
def cfE (x y : Ent) : Int := cmpE x.c x.s x.t x.n x.g y.c y.s y.t y.n y.g

theorem cfE_iff (x y : Ent) : cfE x y < 0 ↔ ltE x y := by
  have h1 := lexI_iff x.c x.s x.t x.n y.c y.s y.t y.n
  have h2 := lexI_iff y.c y.s y.t y.n x.c x.s x.t x.n
  have h3 := cmpI_lt x.g y.g
  unfold cfE cmpE ltE
  generalize lexI [x.c, x.s, x.t, x.n] [y.c, y.s, y.t, y.n] = u at *
  generalize lexI [y.c, y.s, y.t, y.n] [x.c, x.s, x.t, x.n] = v at *
  generalize cmpI x.g y.g = c at *
  unfold ltL at *
  by_cases q1 : u < 0
  · rw [if_pos q1]; simp [← h1, q1]
  · rw [if_neg q1]
    by_cases q2 : v < 0
    · rw [if_pos q2]; omega
    · rw [if_neg q2]; omega

theorem ltOf_iff (x y : Ent) : ltOf cfE x y = true ↔ ltE x y := by
  unfold ltOf; rw [decide_eq_true_iff, cfE_iff]

theorem swoE : SWO (ltOf cfE) where
  irrefl x := by
    rw [← Bool.not_eq_true, ltOf_iff]; unfold ltE ltL; omega
  trans x y z h1 h2 := by
    rw [ltOf_iff] at *; unfold ltE ltL at *; omega
  ntrans x y z h1 h2 := by
    rw [← Bool.not_eq_true, ltOf_iff] at *; unfold ltE ltL at *; omega

theorem flatK_encs (d : Array Ent) : (flatK Ent.enc 5 d).toList = encs d.toList := by
  apply List.ext_getElem?
  intro i
  have hl := encs_length d.toList
  have hs : (flatK Ent.enc 5 d).size = d.size * 5 := size_flatK _ _ _
  by_cases hi : i < d.size * 5
  · have h1 : (flatK Ent.enc 5 d).toList[i]? = some ((Ent.enc d[i / 5]!)[i % 5]!) := by
      rw [Array.getElem?_toList, Array.getElem?_eq_getElem (by omega), ← getElem!_pos, get_flatK _ _ _ _ hi]
    have hj : i / 5 < d.toList.length := by simp; omega
    have h2 := encs_at d.toList (i / 5) hj (i % 5) ((Ent.enc d[i / 5]!)[i % 5]!) (by
      rw [Array.getElem!_toList]
      rw [List.getElem?_eq_getElem (by simp [Ent.enc]; omega), List.getElem!_eq_getElem?_getD, List.getElem?_eq_getElem (by simp [Ent.enc]; omega)]
      rfl)
    rw [show i / 5 * 5 + i % 5 = i by omega] at h2
    rw [h1, h2]
  · rw [List.getElem?_eq_none (by rw [Array.length_toList]; omega), List.getElem?_eq_none (by rw [hl, Array.length_toList]; omega)]


/-- a row of entries: the value of a slice, and what it holds -/
abbrev IsRow (w : World) (base : Nat) (v : Value) (es : List Ent) : Prop := w.ownsRow base 35 5 v es.length (encs es)

theorem row_cells {w : World} {b cap : Nat} {cur : Array Value} {es : List Ent} (hh : w.heap[b]? = some (.cells cur 35 (0, 0))) (ht : cur.toList.take (es.length * 5) = encs es) :
    ∀ j u, (encs es)[j]? = some u → w.cell? ⟨b, j, none⟩ = some u := by
  intro j u hu
  rw [cell_of_row w b j cur 35 (0, 0) hh]
  rw [← ht, List.getElem?_take] at hu
  split at hu
  · simpa using hu
  · cases hu

theorem holdsK_of {w : World} {b : Nat} {cur : Array Value} {es : List Ent} (hh : w.heap[b]? = some (.cells cur 35 (0, 0))) (ht : cur.toList.take (es.length * 5) = encs es) :
    HoldsK Ent.enc 5 w b 0 es.toArray := by
  intro j hj
  have hl := encs_length es
  have hf : (flatK Ent.enc 5 es.toArray).toList = encs es := by rw [flatK_encs]
  have hsz : (flatK Ent.enc 5 es.toArray).size = es.length * 5 := by simp
  rw [Nat.zero_add]
  refine ⟨?_, ?_⟩
  · refine row_cells (cap := 0) hh ht j _ ?_
    rw [← hf, Array.getElem?_toList, Array.getElem?_eq_getElem hj, getElem!_pos _ j hj]
    rfl
  · simp [World.frozen?, hh]

theorem sorted_row {w : World} {base b cap : Nat} {cur : Array Value} {es : List Ent} (d' : Array Ent) (n : Nat) (os : Array Obj) (hb : base ≤ b)
    (hh : w.heap[b]? = some (.cells cur 35 (0, 0))) (hcap : es.length ≤ cap) (hm : cap ≤ maxLen) (hs : cur.size = cap * 5) (ht : cur.toList.take (es.length * 5) = encs es) (hd : d'.size = es.length) :
    IsRow (sortWorldK Ent.enc 5 w b 0 n d' os) base (.slice (some ⟨b, 0, none⟩) es.length cap) d'.toList ∧ w.grownBy (sortWorldK Ent.enc 5 w b 0 n d' os) (some b) := by
  have hlt : b < w.heap.size := (Array.getElem?_eq_some_iff.1 hh).1
  have hblk : (sortWorldK Ent.enc 5 w b 0 n d' os).heap[b]? = some (.cells (putCells id 0 (flatK Ent.enc 5 d') cur) 35 (0, 0)) := by
    show ((putRow id (Go.Sort.ahead w n) b 0 (flatK Ent.enc 5 d')).heap ++ os)[b]? = _
    rw [Array.getElem?_append_left (by rw [size_putRow]; exact hlt)]
    show (w.heap.modify b _)[b]? = _
    rw [Array.getElem?_modify, if_pos rfl, hh]
    rfl
  refine ⟨⟨encs_length _, .inr ⟨b, cap, _, by simp [hd], hb, hblk, by simp; omega, hm, by simp [putCells, hs], ?_⟩⟩, ?_⟩
  · rw [← flatK_encs]
    apply List.ext_getElem?
    intro i
    have hf : (flatK Ent.enc 5 d').size = d'.size * 5 := size_flatK _ _ _
    rw [List.getElem?_take]
    simp only [Array.length_toList]
    split
    · rename_i hi
      rw [Array.getElem?_toList, Array.getElem?_toList, Array.getElem?_eq_getElem (by simp [putCells]; omega), Array.getElem?_eq_getElem (by omega)]
      simp only [putCells, Array.getElem_mapIdx]
      rw [if_pos (by omega)]
      simp only [id, Nat.sub_zero]
      rw [getElem!_pos _ i (by omega)]
    · rw [Array.getElem?_toList, Array.getElem?_eq_none (by omega)]
  · refine ⟨rfl, rfl, rfl, ?_, ?_⟩
    · show w.heap.size ≤ ((putRow id (Go.Sort.ahead w n) b 0 (flatK Ent.enc 5 d')).heap ++ os).size
      rw [Array.size_append, size_putRow]
      show w.heap.size ≤ w.heap.size + _
      omega
    · intro k hk hne
      show ((putRow id (Go.Sort.ahead w n) b 0 (flatK Ent.enc 5 d')).heap ++ os)[k]? = _
      rw [Array.getElem?_append_left (by rw [size_putRow]; exact hk)]
      show (w.heap.modify b _)[k]? = _
      rw [Array.getElem?_modify, if_neg (fun e => hne (by rw [e]))]

end Go.Proofs.Ytkpjfmlhjpbdhaa
