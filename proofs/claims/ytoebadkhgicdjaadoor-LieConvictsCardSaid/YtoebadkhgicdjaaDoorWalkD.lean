/-
  The walks of package wire: lists that a reader reads. Conditions: none.
-/
import Derived.Test.YtoebadkhgicdjaaDoorWalkC
namespace Go.Proofs.YtoebadkhgicdjaaDoor
open Go.RowKit

/-- values, one after the other -/
noncomputable def itemsL {α : Type} (one : ByteArray → Bool → RS α) : Nat → ByteArray → Bool → List α → RS (List α)
  | 0, r, b, out => ⟨out, r, b⟩
  | k + 1, r, b, out => if b then ⟨out, r, b⟩ else itemsL one k (one r b).r (one r b).b (out ++ [(one r b).v])
noncomputable def itemsS {α : Type} (one : ByteArray → Bool → RS α) (r : ByteArray) (b : Bool) : RS (List α) :=
  let q := numS r b 91 0
  let l := itemsL one q.v.toNat q.r q.b []
  let c := closeS l.r l.b ⟨#[93]⟩
  ⟨if c.2 then [] else l.v, c.1, c.2⟩
noncomputable abbrev oneInt (r : ByteArray) (b : Bool) : RS Int := numS r b 59 (-9223372036854775808)
noncomputable abbrev oneText (r : ByteArray) (b : Bool) : RS ByteArray := textS r b
theorem textS_size (r : ByteArray) : ((textS r false).b = false ∧ (textS r false).r.size < r.size) ∨ (textS r false).b = true ∧ (textS r false).r.size ≤ r.size := by
  have h1 := numS_size r false 58 0
  have h2 := numS_le (r := r) (b := false) (c := 58) (least := 0)
  unfold textS
  dsimp only
  split
  · exact .inr ⟨rfl, Nat.zero_le _⟩
  · rename_i hn
    have h3 := closeS_size ((numS r false 58 0).r.extract (numS r false 58 0).v.toNat (numS r false 58 0).r.size) (numS r false 58 0).b ⟨#[44]⟩
    simp only [ByteArray.size_extract] at h3
    rcases hc : closeS ((numS r false 58 0).r.extract (numS r false 58 0).v.toNat (numS r false 58 0).r.size) (numS r false 58 0).b ⟨#[44]⟩ with ⟨q, e⟩
    rw [hc] at h3
    simp only at h3 ⊢
    cases e with
    | true => exact .inr ⟨rfl, by omega⟩
    | false =>
      left
      rcases h1 with ⟨_, h1⟩ | h1
      · exact ⟨rfl, by omega⟩
      · exfalso
        rw [h1] at hc
        unfold closeS at hc
        split at hc
        · cases hc
        · cases hc
theorem textS_size2 (r : ByteArray) : ((oneText r false).b = false ∧ (oneText r false).r.size < r.size) ∨ (oneText r false).b = true ∧ (oneText r false).r.size ≤ r.size := textS_size r
theorem intS_size (r : ByteArray) : ((oneInt r false).b = false ∧ (oneInt r false).r.size < r.size) ∨ (oneInt r false).b = true ∧ (oneInt r false).r.size ≤ r.size := by
  rcases numS_size r false 59 (-9223372036854775808) with h | h
  · exact .inl h
  · right
    rw [oneInt, h]
    exact ⟨rfl, Nat.zero_le _⟩
attribute [local irreducible] numS closeS textS
end Go.Proofs.YtoebadkhgicdjaaDoor
