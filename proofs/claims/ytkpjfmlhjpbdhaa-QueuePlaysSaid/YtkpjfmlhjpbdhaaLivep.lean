/- Sorted rows of the same entries are the same row; no program in sight. -/
import Derived.Test.YtkpjfmlhjpbdhaaSortW
namespace Go.Proofs.Ytkpjfmlhjpbdhaa

theorem ltE_anti (x y : Ent) (h1 : ¬ ltE x y) (h2 : ¬ ltE y x) : x = y := by
  obtain ⟨a0, a1, a2, a3, a4⟩ := x
  obtain ⟨b0, b1, b2, b3, b4⟩ := y
  simp only [ltE, ltL] at h1 h2
  have e0 : a0 = b0 := by omega
  have e1 : a1 = b1 := by omega
  have e2 : a2 = b2 := by omega
  have e3 : a3 = b3 := by omega
  have e4 : a4 = b4 := by omega
  subst e0 e1 e2 e3 e4
  rfl

theorem sorted_unique : ∀ {l1 l2 : List Ent}, Sorted l1 → Sorted l2 → l1.Perm l2 → l1 = l2 := by
  intro l1
  induction l1 with
  | nil => intro l2 _ _ hp; exact (List.nil_perm.1 hp).symm
  | cons x l1 ih =>
    intro l2 h1 h2 hp
    cases l2 with
    | nil => exact absurd hp.length_eq (by simp)
    | cons y l2 =>
      have h1' := List.pairwise_cons.1 h1
      have h2' := List.pairwise_cons.1 h2
      have hxy : x = y := by
        have hx : x ∈ y :: l2 := hp.mem_iff.1 (by simp)
        have hy : y ∈ x :: l1 := hp.mem_iff.2 (by simp)
        rcases List.mem_cons.1 hx with e | e
        · exact e
        · rcases List.mem_cons.1 hy with e' | e'
          · exact e'.symm
          · exact ltE_anti x y (h2'.1 x e) (h1'.1 y e')
      subst hxy
      rw [ih h1'.2 h2'.2 ((List.perm_cons x).1 hp)]

theorem ltE_dec (x y : Ent) : ltE x y ↔ ((x.c < y.c ∨ (x.c = y.c ∧ (x.s < y.s ∨ (x.s = y.s ∧ (x.t < y.t ∨ (x.t = y.t ∧ x.n < y.n)))))) ∨ (x.c = y.c ∧ x.s = y.s ∧ x.t = y.t ∧ x.n = y.n ∧ x.g < y.g)) := Iff.rfl

theorem live1 {es : List Ent} (hp : es.Perm ([] ++ [⟨1, 4, 0, 0, 1⟩])) : es = [⟨1, 4, 0, 0, 1⟩] := List.perm_singleton.1 (by simpa using hp)
theorem live2 {es : List Ent} (hp : es.Perm ([⟨1, 4, 0, 0, 1⟩] ++ [⟨1, 3, 0, 0, 2⟩])) (hs : Sorted es) : es = [⟨1, 3, 0, 0, 2⟩, ⟨1, 4, 0, 0, 1⟩] :=
  sorted_unique hs (by simp [Sorted, ltE, ltL]) (hp.trans (List.Perm.swap _ _ _))
theorem live3 {es : List Ent} (hp : es.Perm [⟨1, 3, 0, 0, 2⟩, ⟨1, 0, 0, 0, 1⟩]) (hs : Sorted es) : es = [⟨1, 0, 0, 0, 1⟩, ⟨1, 3, 0, 0, 2⟩] :=
  sorted_unique hs (by simp [Sorted, ltE, ltL]) (hp.trans (List.Perm.swap _ _ _))

end Go.Proofs.Ytkpjfmlhjpbdhaa
