/- Contracts: all entries of a queue, as a new row of its own. -/
import Derived.Test.YtkpjfmlhjpbdhaaQall
namespace Go.Proofs.Ytkpjfmlhjpbdhaa
open Go.RowKit Go.Lib Go.Sort

theorem clone_row (base : Nat) (v : Value) (es : List Ent) (w : World) (ho : IsRow w base v es) (hn : es.length < 1000000) :
    Calls Try.prog 35 #[v] w fun e w' => ∃ v', e = .returned v' ∧ IsRow w' w.heap.size v' es ∧ Below w.heap.size w w' := by
  obtain ⟨i0, hi', hz0, hz1, hz2⟩ := info_parts infoE
  obtain ⟨hl, ⟨rfl, h0⟩ | ⟨b, cap, cur, rfl, hb, hh, hcap, hm, hs, ht⟩⟩ := ho
  · have : es = [] := List.length_eq_zero_iff.1 h0
    subst this
    have he := fun w' => Lib.run_eql_slice_nil (P := Try.prog) w' 68 35 none 0 0 0 0 Try.underlying68
    go_enter Try.func35, Try.ntmps35
    go_wp2
    go_ret
    exact ⟨_, rfl, World.ownsRow_nil _ _ _ _, Below.refl _ _⟩
  · have he := fun w' => Lib.run_eql_slice_nil (P := Try.prog) w' 68 35 (some ⟨b, 0, none⟩) es.length cap 0 0 Try.underlying68
    have hcell := row_cells (cap := cap) hh ht
    have hlen := encs_length es
    have h1 : ∀ u ∈ encs es, u.oneCell' = true := by
      intro u hu
      obtain ⟨x, _, hx⟩ := List.mem_flatMap.1 hu
      simp [Ent.enc] at hx
      rcases hx with rfl | rfl | rfl | rfl | rfl <;> rfl
    have hread : ∀ (w' : World) v', w'.ownsRow w.heap.size 35 5 v' (0 + es.length) ([] ++ encs es) → IsRow w' w.heap.size v' es := by
      intro w' v' ho
      rw [Nat.zero_add, List.nil_append] at ho
      exact ho
    have HR := Lib.hid hread; clear hread
    have HC := Lib.hid hcell; clear hcell
    have HL := Lib.hid hlen; clear hlen
    have H1 := Lib.hid h1; clear h1
    clear hh ht hs hl
    generalize encs es = news at *
    generalize hnn : es.length = n at *
    have HN := Lib.hid hnn; clear hnn
    go_enter Try.func35, Try.ntmps35
    go_wp2_with (at_builtin; refine wpList_append_own _ rfl _ _ 68 rfl w.heap.size 35 i0 (.agg #[.int .i64 0, .int .i64 0, .int .i64 0, .int .i64 0, .int .i64 0]) 5 40 Try.underlying68 hi' hz0 hz1 hz2 rfl (by decide) (.slice (some ⟨w.heap.size, 0, none⟩) 0 0) 0 [] rfl (World.ownsRow_made w #[] 0 (Nat.le_refl _) (by decide) rfl) ⟨b, 0, none⟩ n cap news rfl HL.out ?c1 H1.out ?c2 ?c3 ?c4 ?c5)
    case c1 => intro j u hu; rw [Addr.add_lit]; exact cell_alloc (by rw [Nat.zero_add]; exact HC.out j u hu)
    case c2 => unfold maxLen; omega
    case c3 => omega
    case c4 => simp
    intro v' w' hown' hgrow _
    have hb' : Below w.heap.size w w' := ((Below.refl _ w).alloc (Nat.le_refl _) _).grown hgrow (by simp) (fun k e => by cases e; exact Nat.le_refl _)
    have hrd := HR.out w' v' (by first | exact hown' | (rw [Nat.zero_add]; exact hown'))
    have HO := Lib.hid hrd; clear hrd hown'
    have HB := Lib.hid hb'; clear hb' hgrow
    go_wp2
    go_ret
    exact ⟨v', rfl, HO.out, HB.out⟩

theorem all_row (base B : Nat) (es : List Ent) (room : Int) (w : World) (hq : IsQ w base B es room) (hn : es.length < 1000000) : Calls Try.prog 19 #[.pointer (some ⟨B, 0, none⟩)] w fun e w' =>
    ∃ v', e = .returned v' ∧ IsRow w' w.heap.size v' es ∧ Below w.heap.size w w' := by
  obtain ⟨v, hbB, hhB, hr⟩ := id hq
  have hB : w.cell? ⟨B, 0, none⟩ = some v := cell_in hhB rfl
  have hc := clone_row base v es w hr hn
  clear hr hhB
  have HC := Lib.hid hc; clear hc
  go_enter Try.func19, Try.ntmps19
  go_wp2_with (go_at_call 35; refine HC.out.mono ?_; rintro e w' ⟨v', rfl, hr', hb'⟩)
  go_ret
  exact ⟨_, rfl, hr', hb'⟩

end Go.Proofs.Ytkpjfmlhjpbdhaa
