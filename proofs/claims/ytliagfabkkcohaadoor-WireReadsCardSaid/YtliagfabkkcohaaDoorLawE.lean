/-
  The plain laws of package wire: a reader that has failed has nothing left. Conditions: none.
-/
import Derived.Test.YtliagfabkkcohaaDoorLawB
namespace Go.Proofs.YtliagfabkkcohaaDoor

theorem emp_of {r : ByteArray} (h : r.size = 0) : r = emp := by
  apply ba_ext
  have : r.data.toList.length = 0 := by rw [Array.length_toList]; exact h
  rw [List.eq_nil_of_length_eq_zero this]
  rfl
theorem numS_bad {r : ByteArray} {b : Bool} {c : UInt8} {least : Int} (h : b = true → r = emp) (hb : (numS r b c least).b = true) : (numS r b c least).r = emp := by
  rcases numS_size r b c least with h1 | h1
  · rw [h1.1] at hb
    have h2 := h1.2
    rw [h hb, emp_size] at h2
    omega
  · rw [h1]
theorem closeS_bad {r : ByteArray} {b : Bool} {c : UInt8} (h : b = true → r = emp) (hb : (closeS r b ⟨#[c]⟩).2 = true) : (closeS r b ⟨#[c]⟩).1 = emp := by
  rcases closeS_to (r := r) (b := b) (c := c) with ⟨q, h1, h2⟩ | h1
  · rw [h1] at hb
    rw [h hb] at h2
    cases h2
  · rw [h1]
theorem textS_bad {r : ByteArray} {b : Bool} (h : b = true → r = emp) (hb : (textS r b).b = true) : (textS r b).r = emp := by
  have h1 := fun h2 => numS_bad (r := r) (b := b) (c := 58) (least := 0) h h2
  unfold textS at hb ⊢
  dsimp only at hb ⊢
  split at hb
  · rename_i hc
    rw [if_pos hc]
  · rename_i hc
    rw [if_neg hc]
    refine closeS_bad (fun h2 => ?_) hb
    refine emp_of ?_
    rw [ByteArray.size_extract, h1 h2, emp_size]
    omega
theorem items_bad {α : Type} (one : ByteArray → Bool → RS α) (H : ∀ r b, (b = true → r = emp) → (one r b).b = true → (one r b).r = emp) {r : ByteArray} {b : Bool} (h : b = true → r = emp) (hb : (itemsS one r b).b = true) : (itemsS one r b).r = emp := by
  have key : ∀ (k : Nat) (r : ByteArray) (b : Bool) (out : List α), (b = true → r = emp) → (itemsL one k r b out).b = true → (itemsL one k r b out).r = emp := by
    intro k
    induction k with
    | zero => intro r b out h hb; exact h hb
    | succ k ih =>
      intro r b out h hb
      simp only [itemsL] at hb ⊢
      split at hb
      · rename_i hc
        rw [if_pos hc]
        exact h hc
      · rename_i hc
        rw [if_neg hc]
        exact ih _ _ _ (fun h2 => H _ _ h h2) hb
  exact closeS_bad (fun h2 => key _ _ _ _ (fun h3 => numS_bad h h3) h2) hb
end Go.Proofs.YtliagfabkkcohaaDoor
