/- Insertion of an entry into a row in order; no program in sight. -/
import Derived.Test.YtkpjfmlhjpbdhaaLivep
namespace Go.Proofs.Ytkpjfmlhjpbdhaa

instance (x y : Ent) : Decidable (ltE x y) := by unfold ltE ltL; exact inferInstance

/-- x ahead of the first one that it is ahead of -/
def ins (x : Ent) : List Ent → List Ent
  | [] => [x]
  | y :: l => if ltE x y then x :: y :: l else y :: ins x l

theorem ins_none (x : Ent) : ∀ l : List Ent, (∀ y ∈ l, ¬ ltE x y) → ins x l = l ++ [x] := by
  intro l
  induction l with
  | nil => intro _; rfl
  | cons y l ih =>
    intro h
    rw [ins, if_neg (h y (by simp)), ih (fun z hz => h z (by simp [hz]))]; rfl

theorem ins_some (x : Ent) : ∀ l : List Ent, (∃ y ∈ l, ltE x y) → ∀ m, ins x (l ++ m) = ins x l ++ m := by
  intro l
  induction l with
  | nil => intro h; obtain ⟨y, h, _⟩ := h; cases h
  | cons y l ih =>
    intro h m
    by_cases hy : ltE x y
    · rw [List.cons_append, ins, if_pos hy, ins, if_pos hy]; rfl
    · have : ∃ z ∈ l, ltE x z := by
        obtain ⟨z, hz, hl⟩ := h
        rcases List.mem_cons.1 hz with rfl | hz
        · exact absurd hl hy
        · exact ⟨z, hz, hl⟩
      rw [List.cons_append, ins, if_neg hy, ins, if_neg hy, ih this]; rfl

theorem ins_first (x y : Ent) (l : List Ent) (h : ∀ z ∈ l, ¬ ltE x z) (hy : ltE x y) : ins x (l ++ [y]) = l ++ [x] ++ [y] := by
  induction l with
  | nil => simp [ins, hy]
  | cons z l ih => rw [List.cons_append, ins, if_neg (h z (by simp)), ih (fun u hu => h u (by simp [hu]))]; rfl

theorem ins_perm (x : Ent) : ∀ l : List Ent, (ins x l).Perm (l ++ [x]) := by
  intro l
  induction l with
  | nil => exact List.Perm.refl _
  | cons y l ih =>
    by_cases hy : ltE x y
    · rw [ins, if_pos hy]; exact (List.perm_append_comm (l₁ := [x]) (l₂ := y :: l))
    · rw [ins, if_neg hy]; exact ih.cons y

theorem ins_sorted (x : Ent) : ∀ l : List Ent, Sorted l → Sorted (ins x l) := by
  intro l
  induction l with
  | nil => intro _; exact List.pairwise_singleton _ _
  | cons y l ih =>
    intro h
    have h' := List.pairwise_cons.1 h
    by_cases hy : ltE x y
    · rw [ins, if_pos hy]
      refine List.pairwise_cons.2 ⟨fun z hz => ?_, h⟩
      rcases List.mem_cons.1 hz with rfl | hz
      · unfold ltE ltL at *; omega
      · have := h'.1 z hz
        unfold ltE ltL at *; omega
    · rw [ins, if_neg hy]
      refine List.pairwise_cons.2 ⟨fun z hz => ?_, ih h'.2⟩
      rcases List.mem_append.1 ((ins_perm x l).mem_iff.1 hz) with hz | hz
      · exact h'.1 z hz
      · simp at hz; subst hz; exact hy

/-- what the loop holds behind the entries l -/
def LayS (x : Ent) (l : List Ent) (d : Bool) (out : List Ent) : Prop :=
  (d = false ∧ (∀ y ∈ l, ¬ ltE x y) ∧ out = l) ∨ (d = true ∧ (∃ y ∈ l, ltE x y) ∧ out = ins x l)

theorem LayS.nil (x : Ent) : LayS x [] false [] := .inl ⟨rfl, by simp, rfl⟩
theorem LayS.done {x : Ent} {l out : List Ent} (h : LayS x l true out) (y : Ent) : LayS x (l ++ [y]) true (out ++ [y]) := by
  rcases h with ⟨h, _⟩ | ⟨_, ⟨z, hz, hl⟩, rfl⟩
  · cases h
  · exact .inr ⟨rfl, ⟨z, by simp [hz], hl⟩, (ins_some x l ⟨z, hz, hl⟩ _).symm⟩
theorem LayS.past {x : Ent} {l out : List Ent} (h : LayS x l false out) (y : Ent) (hy : ¬ ltE x y) : LayS x (l ++ [y]) false (out ++ [y]) := by
  rcases h with ⟨_, h, rfl⟩ | ⟨h, _⟩
  · exact .inl ⟨rfl, fun z hz => by rcases List.mem_append.1 hz with hz | hz; exact h z hz; simp at hz; subst hz; exact hy, rfl⟩
  · cases h
theorem LayS.here {x : Ent} {l out : List Ent} (h : LayS x l false out) (y : Ent) (hy : ltE x y) : LayS x (l ++ [y]) true (out ++ [x] ++ [y]) := by
  rcases h with ⟨_, h, rfl⟩ | ⟨h, _⟩
  · exact .inr ⟨rfl, ⟨y, by simp, hy⟩, (ins_first x y _ h hy).symm⟩
  · cases h
theorem LayS.end_no {x : Ent} {l out : List Ent} (h : LayS x l false out) : out ++ [x] = ins x l := by
  rcases h with ⟨_, h, rfl⟩ | ⟨h, _⟩
  · exact (ins_none x _ h).symm
  · cases h
theorem LayS.end_yes {x : Ent} {l out : List Ent} (h : LayS x l true out) : out = ins x l := by
  rcases h with ⟨h, _⟩ | ⟨_, _, h⟩
  · cases h
  · exact h

end Go.Proofs.Ytkpjfmlhjpbdhaa
