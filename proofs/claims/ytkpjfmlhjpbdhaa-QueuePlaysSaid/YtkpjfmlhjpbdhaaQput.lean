/- Contracts: laying an entry in. -/
import Derived.Test.YtkpjfmlhjpbdhaaQd
import Derived.Deep.AppendLies
namespace Go.Proofs.Ytkpjfmlhjpbdhaa
open Go.RowKit Go.Lib Go.Sort
attribute [local go_sem ↓] Go.wp_at_zero Go.wp_at_succ

theorem infoE : (Try.prog.info? 35).map (fun i => (i.zero, i.size, i.bytes)) = some (some (.agg #[.int .i64 0, .int .i64 0, .int .i64 0, .int .i64 0, .int .i64 0]), 5, 40) := by kernel_rfl

theorem put_nil (x : Ent) (w : World) : Calls Try.prog 9 #[.pointer none, entVal x] w fun e w' =>
    e = .returned (.int .i64 7) ∧ Below w.heap.size w w' := by
  go_enter Try.func9, Try.ntmps9
  go_wp2
  go_ret
  exact ⟨rfl, (Below.refl _ _).alloc (Nat.le_refl _) _⟩

theorem put_range (B : Nat) (x : Ent) (w : World) (hr : lright x.c x.s x.t x.n = false) : Calls Try.prog 9 #[.pointer (some ⟨B, 0, none⟩), entVal x] w fun e w' =>
    e = .returned (.int .i64 1) ∧ Below w.heap.size w w' := by
  obtain ⟨xc, xs, xt, xn, xg⟩ := x
  have hR := cright_any xc xs xt xn
  simp only at hr
  rw [hr] at hR
  have HR := Lib.hid hR; clear hR hr
  go_enter Try.func9, Try.ntmps9
  go_wp2_with fail
  refine (HR.out _).mono ?_
  rintro e w' ⟨rfl, hE⟩
  have HE := Lib.hid hE; clear hE
  go_wp2
  go_ret
  exact ⟨rfl, (((Ext.refl _).alloc _).trans HE.out).below⟩

theorem put_twice (base B : Nat) (es : List Ent) (room : Int) (x : Ent) (w : World) (hq : IsQ w base B es room) (hr : lright x.c x.s x.t x.n = true) (hi : 0 ≤ idxT x.g es 0) : Calls Try.prog 9 #[.pointer (some ⟨B, 0, none⟩), entVal x] w fun e w' =>
    e = .returned (.int .i64 13) ∧ Below w.heap.size w w' := by
  obtain ⟨xc, xs, xt, xn, xg⟩ := x
  have hR := cright_any xc xs xt xn
  simp only at hr hi
  rw [hr] at hR
  have hA := fun W (hW : Below w.heap.size w W) => at_any base B es room xg W (hq.below hW)
  generalize idxT xg es 0 = k at *
  have HR := Lib.hid hR; clear hR hr
  have HA := Lib.hid hA; clear hA hq
  go_enter Try.func9, Try.ntmps9
  go_wp2_with fail
  refine (HR.out _).mono ?_
  rintro e w1 ⟨rfl, hE⟩
  obtain ⟨hc, hf⟩ := bcell hE.below
  have hb1 := (((Ext.refl _).alloc _).trans hE).below
  have HE := Lib.hid hE; clear hE
  go_wp2_with fail
  refine (HA.out _ hb1).mono ?_
  rintro e w2 ⟨rfl, hE2⟩
  have HE2 := Lib.hid hE2; clear hE2
  go_wp2
  go_ret
  exact ⟨rfl, hb1.trans (HE2.out.mono hb1.size)⟩

theorem put_full (base B : Nat) (es : List Ent) (room : Int) (x : Ent) (w : World) (hq : IsQ w base B es room) (hr : lright x.c x.s x.t x.n = true) (hi : idxT x.g es 0 = -1) (hl : room ≤ es.length) : Calls Try.prog 9 #[.pointer (some ⟨B, 0, none⟩), entVal x] w fun e w' =>
    e = .returned (.int .i64 6) ∧ Below w.heap.size w w' := by
  obtain ⟨xc, xs, xt, xn, xg⟩ := x
  have hR := cright_any xc xs xt xn
  simp only at hr hi
  rw [hr] at hR
  have hA := fun W (hW : Below w.heap.size w W) => at_any base B es room xg W (hq.below hW)
  rw [hi] at hA
  have hS : ∀ W, Below w.heap.size w W → ∃ a c, W.cell? ⟨B, 0, none⟩ = some (.slice a es.length c) ∧ W.cell? ⟨B, 1, none⟩ = some (.int .i64 room) := by
    intro W hW
    obtain ⟨v, hb, hh, hrow⟩ := hq.below hW
    obtain ⟨a, c, rfl⟩ := row_len hrow
    exact ⟨a, c, cell_in hh rfl, cell_in hh rfl⟩
  generalize es.length = n at *
  have HR := Lib.hid hR; clear hR hr hi
  have HA := Lib.hid hA; clear hA hq
  have HS := Lib.hid hS; clear hS
  go_enter Try.func9, Try.ntmps9
  go_wp2_with fail
  refine (HR.out _).mono ?_
  rintro e w1 ⟨rfl, hE⟩
  obtain ⟨hc, hf⟩ := bcell hE.below
  have hb1 := (((Ext.refl _).alloc _).trans hE).below
  have HE := Lib.hid hE; clear hE
  go_wp2_with fail
  refine (HA.out _ hb1).mono ?_
  rintro e w2 ⟨rfl, hE2⟩
  have hb2 := hb1.trans (hE2.mono hb1.size)
  obtain ⟨a, c, s0, s1⟩ := HS.out _ hb2
  have HE2 := Lib.hid hE2; clear hE2
  have HB2 := Lib.hid hb2; clear hb2 hb1 hc hf
  go_wp2
  go_quiet (fail)
  go_wp2
  go_ret
  exact ⟨rfl, below_drewN HB2.out _⟩

end Go.Proofs.Ytkpjfmlhjpbdhaa
