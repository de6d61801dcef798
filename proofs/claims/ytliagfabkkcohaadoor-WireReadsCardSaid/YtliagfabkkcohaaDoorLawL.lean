/-
  The plain laws of package wire: lists. Conditions: none.
-/
import Derived.Test.YtliagfabkkcohaaDoorLawB
import Derived.Test.YtliagfabkkcohaaDoorWalkL
namespace Go.Proofs.YtliagfabkkcohaaDoor
open Go.RowKit

section
variable {α : Type} {one : ByteArray → Bool → RS α} {W : α → ByteArray} {ok : α → Prop}
def flat8 (W : α → ByteArray) (l : List α) : List UInt8 := (l.map fun x => L (W x)).flatten
theorem listW_L (l : List α) : L (listW W l) = Lib.itoa l.length ++ 91 :: (flat8 W l ++ [93]) := by
  rw [listW, L_app]
  show listB l.length W l ++ [93] = _
  unfold listB flat8
  have : (itoaB l.length ++ ⟨#[91]⟩).data.toList = Lib.itoa l.length ++ [91] := L_app _ _
  rw [this]
  simp
theorem items_of (H : ∀ x r t, ok x → L r = L (W x) ++ t → one r false = ⟨x, B t, false⟩) : ∀ (l out : List α) (r : ByteArray) (t : List UInt8), (∀ x ∈ l, ok x) → L r = flat8 W l ++ t → itemsL one l.length r false out = ⟨out ++ l, B t, false⟩ := by
  intro l
  induction l with
  | nil =>
    intro out r t _ h
    have : r = B t := ba_ext h
    simp [itemsL, this]
  | cons x l ih =>
    intro out r t hk h
    have h1 := H x r (flat8 W l ++ t) (hk x (by simp)) (by rw [h]; simp [flat8])
    simp only [List.length_cons, itemsL, h1]
    rw [if_neg (by simp), ih _ _ t (fun y hy => hk y (by simp [hy])) rfl]
    simp
theorem itemsS_of (H : ∀ x r t, ok x → L r = L (W x) ++ t → one r false = ⟨x, B t, false⟩) {l : List α} {r : ByteArray} {t : List UInt8} (hk : ∀ x ∈ l, ok x) (hl : l.length ≤ 1000000) (h : L r = L (listW W l) ++ t) : itemsS one r false = ⟨l, B t, false⟩ := by
  have h1 : numS r false 91 0 = ⟨l.length, B (flat8 W l ++ (93 :: t)), false⟩ := by
    refine numS_of sep91 ?_ ⟨by omega, by omega⟩ (by omega)
    rw [h, listW_L]
    simp
  have h2 := items_of H l [] (B (flat8 W l ++ (93 :: t))) (93 :: t) hk rfl
  have h3 : closeS (B (93 :: t)) false ⟨#[93]⟩ = (B t, false) := closeS_of rfl
  unfold itemsS
  simp only [h1, Int.toNat_natCast, h2, h3]
  rfl
theorem items_to (H : ∀ x r q, one r false = ⟨x, q, false⟩ → L r = L (W x) ++ L q ∧ ok x) : ∀ (k : Nat) (r q : ByteArray) (out out' : List α), itemsL one k r false out = ⟨out', q, false⟩ → ∃ l, out' = out ++ l ∧ l.length = k ∧ L r = flat8 W l ++ L q ∧ ∀ x ∈ l, ok x := by
  intro k
  induction k with
  | zero =>
    intro r q out out' h
    simp only [itemsL] at h
    cases h
    exact ⟨[], by simp, rfl, by simp [flat8], by simp⟩
  | succ k ih =>
    intro r q out out' h
    simp only [itemsL] at h
    rw [if_neg (by simp)] at h
    rcases ho : one r false with ⟨x, r', b'⟩
    rw [ho] at h
    simp only at h
    cases b' with
    | true =>
      have : itemsL one k r' true (out ++ [x]) = ⟨out ++ [x], r', true⟩ := by cases k <;> rfl
      rw [this] at h
      cases h
    | false =>
      obtain ⟨h1, h2⟩ := H x r r' ho
      obtain ⟨l, e1, e2, e3, e4⟩ := ih r' q _ _ h
      refine ⟨x :: l, by rw [e1]; simp, by simp [e2], by rw [h1, e3]; simp [flat8], fun y hy => ?_⟩
      rcases List.mem_cons.1 hy with rfl | hy
      · exact h2
      · exact e4 y hy
theorem itemsS_to (H : ∀ x r q, one r false = ⟨x, q, false⟩ → L r = L (W x) ++ L q ∧ ok x) {l : List α} {r q : ByteArray} (h : itemsS one r false = ⟨l, q, false⟩) : L r = L (listW W l) ++ L q ∧ ∀ x ∈ l, ok x := by
  unfold itemsS at h
  rcases numS_to (r := r) (b := false) (c := 91) (least := 0) with ⟨n, p, h1, h2, h3, h4⟩ | h1
  · simp only [h1] at h
    rcases hi : itemsL one n.toNat p false [] with ⟨out, p2, b2⟩
    rw [hi] at h
    simp only at h
    rcases closeS_to (r := p2) (b := b2) (c := 93) with ⟨q2, h5, h6⟩ | h5
    · rw [h5] at h
      simp only at h
      injection h with e1 e2 e3
      subst e2 e3
      simp only [Bool.false_eq_true, if_false] at e1
      subst e1
      obtain ⟨l', e4, e5, e6, e7⟩ := items_to H _ _ _ _ _ hi
      rw [List.nil_append] at e4
      subst e4
      refine ⟨?_, e7⟩
      rw [h2, listW_L, e5, e6, h6, show ((n.toNat : Nat) : Int) = n by omega]
      simp
    · rw [h5] at h
      injection h with _ _ e3
      cases e3
  · simp only [h1] at h
    rcases closeS_to (r := (itemsL one (0 : Int).toNat emp true []).r) (b := (itemsL one (0 : Int).toNat emp true []).b) (c := 93) with ⟨q2, h5, h6⟩ | h5
    · rw [h5] at h
      injection h with _ _ e3
      cases e3
    · rw [h5] at h
      injection h with _ _ e3
      cases e3
end
end Go.Proofs.YtliagfabkkcohaaDoor
