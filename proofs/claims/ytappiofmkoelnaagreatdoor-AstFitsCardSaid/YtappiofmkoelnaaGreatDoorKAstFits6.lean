/-
  For AstFits: texts of the road to it, 7 of 16.
-/
import Derived.Test.YtappiofmkoelnaaGreatDoorKAstFits5
import Derived.KernelRfl
section
namespace Go.Proofs.YtappiofmkoelnaaGreatDoorW.Ah
set_option linter.unusedVariables false
set_option linter.unusedSimpArgs false
def sameZero : Value → Value → Bool
  | .bool a, .bool b => a == b
  | .int k a, .int l b => decide (k = l) && decide (a = b)
  | .string a, .string b => decide (a.data.toList = b.data.toList)
  | .pointer none, .pointer none => true
  | .slice none 0 0, .slice none 0 0 => true
  | .map none, .map none => true
  | .nilFunc, .nilFunc => true
  | .nilIface, .nilIface => true
  | _, _ => false
theorem sameZero_eq : ∀ {a b : Value}, sameZero a b = true → a = b := by
  intro a b h
  unfold sameZero at h
  split at h
  all_goals first
    | rfl
    | (simp at h; done)
    | (simp only [beq_iff_eq] at h; rw [h])
    | (simp only [Bool.and_eq_true, decide_eq_true_eq] at h; rw [h.1, h.2])
    | skip
  · rename_i x y
    simp only [decide_eq_true_eq] at h
    congr 1
    cases x; cases y
    simp only at h
    congr 1
    exact Array.toList_inj.1 h
def sameZeros : List Value → List Value → Bool
  | [], [] => true
  | a :: as', b :: bs => sameZero a b && sameZeros as' bs
  | _, _ => false
theorem sameZeros_eq : ∀ {a b : List Value}, sameZeros a b = true → a = b
  | [], [], _ => rfl
  | a :: as', b :: bs, h => by
    simp only [sameZeros, Bool.and_eq_true] at h
    rw [sameZero_eq h.1, sameZeros_eq h.2]
  | [], _ :: _, h => by simp [sameZeros] at h
  | _ :: _, [], h => by simp [sameZeros] at h
def okB (P : Program) (t : Nat) (i : TI) : Bool :=
  (match P.info? t with
   | some info => info.size == i.size && info.bytes == i.bytes && (match info.zero with | some (.agg z) => aggK i.k && sameZeros z.toList i.zero | some (.tuple _) => false | some z => !(aggK i.k) && sameZeros [z] i.zero | none => false)
   | none => false) &&
  (match P.underlying t with
   | some d => TK.fits d i.k && (!(decide (i.k = .other)) || !(aggD d)) &&
     (!i.eq || (!(P.stoodInHeld t) && !(P.eqGuardType P.depth t) && (match d with | .struct fs => fs.toList.all fun f => !(decide (f.name = "_")) | _ => true)))
   | none => false)
theorem okB_ok {P : Program} {t : Nat} {i : TI} (h : okB P t i = true) : TI.Ok P t i := by
  unfold okB at h
  simp only [Bool.and_eq_true] at h
  obtain ⟨h1, h2⟩ := h
  split at h1
  case h_2 => cases h1
  case h_1 info hi =>
    simp only [Bool.and_eq_true, beq_iff_eq] at h1
    obtain ⟨⟨a1, a2⟩, a3⟩ := h1
    obtain ⟨z, hz, hzc, hone, hagg⟩ : ∃ z, info.zero = some z ∧ z.cells.toList = i.zero ∧ (aggK i.k = false → i.zero = [z]) ∧ (aggK i.k = true → ∃ y, z = .agg y ∧ i.zero = y.toList) := by
      split at a3
      · rename_i z hz
        simp only [Bool.and_eq_true] at a3
        exact ⟨_, hz, sameZeros_eq a3.2, fun h => (by rw [a3.1] at h; cases h), fun _ => ⟨z, rfl, (sameZeros_eq a3.2).symm⟩⟩
      · cases a3
      · rename_i z hn1 hn2 hz
        simp only [Bool.and_eq_true, Bool.not_eq_true'] at a3
        have h1 := sameZeros_eq a3.2
        refine ⟨z, hz, ?_, fun _ => h1.symm, fun h => (by rw [a3.1] at h; cases h)⟩
        rw [← h1]
        cases z <;> first | rfl | exact absurd rfl (hn1 _)
      · cases a3
    split at h2
    case h_2 => cases h2
    case h_1 d hd =>
      simp only [Bool.and_eq_true, Bool.or_eq_true, Bool.not_eq_true', decide_eq_false_iff_not] at h2
      obtain ⟨⟨b1, b2⟩, b3⟩ := h2
      refine ⟨⟨info, z, hi, a1, a2, hz, hzc⟩, ⟨d, hd, b1, fun hk => ?_⟩, fun h => ⟨info, z, hi, hz, hone h⟩, fun h => ?_, fun he => ?_⟩
      · rcases b2 with b2 | b2
        · exact absurd hk b2
        · exact b2
      · obtain ⟨y, rfl, e⟩ := hagg h
        exact ⟨info, y, hi, hz, e⟩
      · rcases b3 with b3 | b3
        · rw [he] at b3; cases b3
        · obtain ⟨⟨c1, c2⟩, c3⟩ := b3
          refine ⟨c1, c2, fun fs hfs f hf => ?_⟩
          rw [hd] at hfs
          cases hfs
          simp only [List.all_eq_true] at c3
          have := c3 f hf
          simpa using this
def tabOf (L : List (Nat × TI)) : Tab := fun t => (L.find? fun p => p.1 == t).map (·.2)
theorem tabOk {P : Program} {L : List (Nat × TI)} (h : (L.all fun p => okB P p.1 p.2) = true) : TOk P (tabOf L) := by
  intro t i ht
  simp only [tabOf, Option.map_eq_some_iff] at ht
  obtain ⟨p, hp, rfl⟩ := ht
  have h1 := List.find?_some hp
  simp only [beq_iff_eq] at h1
  subst h1
  exact okB_ok (List.all_eq_true.1 h p (List.mem_of_find?_eq_some hp))
end Go.Proofs.YtappiofmkoelnaaGreatDoorW.Ah
end
