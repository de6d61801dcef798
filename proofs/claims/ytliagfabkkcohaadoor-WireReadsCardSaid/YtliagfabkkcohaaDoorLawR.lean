/-
  The plain laws of package wire: what is read is the encoding of what it shows. Conditions: none.
-/
import Derived.Test.YtliagfabkkcohaaDoorWalkH
import Derived.Test.YtliagfabkkcohaaDoorLawE
namespace Go.Proofs.YtliagfabkkcohaaDoor

theorem tail_left {r q : ByteArray} {w : List UInt8} (h : L r = w ++ L q) : q.size ≤ r.size ∧ r.extract 0 (r.size - q.size) = B w := by
  have h1 := congrArg List.length h
  rw [List.length_append, L_len, L_len] at h1
  refine ⟨by omega, ba_ext ?_⟩
  rw [ext_list]
  show (L r).take _ = w
  rw [h, List.take_left' (by omega)]
/-- what was read, again -/
noncomputable def againV (k : Int) (r : ByteArray) : ByteArray × ByteArray × Bool :=
  if k = 0 then (numW (numS r false 59 0).v, (numS r false 59 0).r, (numS r false 59 0).b)
  else if k = 1 then (intW (numS r false 59 (-9223372036854775808)).v, (numS r false 59 (-9223372036854775808)).r, (numS r false 59 (-9223372036854775808)).b)
  else if k = 2 then (textW (textS r false).v, (textS r false).r, (textS r false).b)
  else if k = 3 then (listW intW (itemsS oneInt r false).v, (itemsS oneInt r false).r, (itemsS oneInt r false).b)
  else (listW textW (itemsS oneText r false).v, (itemsS oneText r false).r, (itemsS oneText r false).b)
theorem again_law (k : Int) (r : ByteArray) (h : (againV k r).2.2 = false) : L r = L (againV k r).1 ++ L (againV k r).2.1 := by
  unfold againV at h ⊢
  split
  · rename_i hk
    rw [if_pos hk] at h
    have h1 := int_to (r := r) (q := (numS r false 59 0).r) (n := (numS r false 59 0).v) (least := 0) (by cases hq : numS r false 59 0; rw [hq] at h; simp only at h; rw [h])
    rw [numW, if_neg (by omega)]
    exact h1.1
  · rename_i hk
    rw [if_neg hk] at h
    split
    · rename_i hk1
      rw [if_pos hk1] at h
      exact (int_to (r := r) (least := -9223372036854775808) (by cases hq : numS r false 59 (-9223372036854775808); rw [hq] at h; simp only at h; rw [h])).1
    · rename_i hk1
      rw [if_neg hk1] at h
      split
      · rename_i hk2
        rw [if_pos hk2] at h
        exact (text_to (r := r) (by cases hq : textS r false; rw [hq] at h; simp only at h; rw [h])).1
      · rename_i hk2
        rw [if_neg hk2] at h
        split
        · rename_i hk3
          rw [if_pos hk3] at h
          exact (itemsS_to (one := oneInt) (W := intW) (ok := isInt) (fun x r q hx => ⟨(int_to hx).1, (int_to hx).2.1⟩) (by cases hq : itemsS oneInt r false; rw [hq] at h; simp only at h; rw [h])).1
        · rename_i hk3
          rw [if_neg hk3] at h
          exact (itemsS_to (one := oneText) (W := textW) (ok := fun _ => True) (fun x r q hx => ⟨(text_to hx).1, trivial⟩) (by cases hq : itemsS oneText r false; rw [hq] at h; simp only at h; rw [h])).1
theorem ints_ok (r : ByteArray) (b : Bool) : ∀ n ∈ (itemsS oneInt r b).v, isInt n := by
  have key : ∀ (k : Nat) (r : ByteArray) (b : Bool) (out : List Int), (∀ n ∈ out, isInt n) → ∀ n ∈ (itemsL oneInt k r b out).v, isInt n := by
    intro k
    induction k with
    | zero => intro r b out h; exact h
    | succ k ih =>
      intro r b out h
      simp only [itemsL]
      split
      · exact h
      · refine ih _ _ _ (fun n hn => ?_)
        rcases List.mem_append.1 hn with hn | hn
        · exact h n hn
        · rw [List.mem_singleton] at hn
          subst hn
          exact ⟨num_ge (by decide), num_le⟩
  unfold itemsS
  dsimp only
  split
  · simp
  · exact key _ _ _ _ (by simp)
theorem text_one (r : ByteArray) (b : Bool) : (textS r b).v.size ≤ r.size := by
  have h1 := numS_le (r := r) (b := b) (c := 58) (least := 0)
  unfold textS
  dsimp only
  split
  · exact Nat.zero_le _
  · dsimp only
    split
    · exact Nat.zero_le _
    · simp only [ByteArray.size_extract]
      omega
theorem texts_ok (r : ByteArray) (b : Bool) : ∀ s ∈ (itemsS oneText r b).v, s.size ≤ r.size := by
  have ht : ∀ (r : ByteArray) (b : Bool), (textS r b).v.size ≤ r.size ∧ (textS r b).r.size ≤ r.size := by
    intro r b
    have h1 := numS_le (r := r) (b := b) (c := 58) (least := 0)
    unfold textS
    dsimp only
    split
    · exact ⟨Nat.zero_le _, Nat.zero_le _⟩
    · have h2 := closeS_size ((numS r b 58 0).r.extract (numS r b 58 0).v.toNat (numS r b 58 0).r.size) (numS r b 58 0).b ⟨#[44]⟩
      simp only [ByteArray.size_extract] at h2
      refine ⟨?_, by dsimp only; omega⟩
      dsimp only
      split
      · exact Nat.zero_le _
      · simp only [ByteArray.size_extract]
        omega
  have key : ∀ (k B : Nat) (r : ByteArray) (b : Bool) (out : List ByteArray), r.size ≤ B → (∀ s ∈ out, s.size ≤ B) → ∀ s ∈ (itemsL oneText k r b out).v, s.size ≤ B := by
    intro k B
    induction k with
    | zero => intro r b out _ h; exact h
    | succ k ih =>
      intro r b out hr h
      simp only [itemsL]
      split
      · exact h
      · have := ht r b
        refine ih _ _ _ (by simp only [oneText]; omega) (fun s hs => ?_)
        rcases List.mem_append.1 hs with hs | hs
        · exact h s hs
        · rw [List.mem_singleton] at hs
          subst hs
          simp only [oneText]
          omega
  unfold itemsS
  dsimp only
  split
  · simp
  · exact key _ _ _ _ _ numS_le (by simp)
theorem again0 {s : ByteArray} (h : (numS s false 59 0).b = false) : L s = L (numW (numS s false 59 0).v) ++ L (numS s false 59 0).r := again_law 0 s h
theorem again1 {s : ByteArray} (h : (numS s false 59 (-9223372036854775808)).b = false) : L s = L (intW (numS s false 59 (-9223372036854775808)).v) ++ L (numS s false 59 (-9223372036854775808)).r := again_law 1 s h
theorem again2 {s : ByteArray} (h : (textS s false).b = false) : L s = L (textW (textS s false).v) ++ L (textS s false).r := again_law 2 s h
theorem again3 {s : ByteArray} (h : (itemsS oneInt s false).b = false) : L s = L (listW intW (itemsS oneInt s false).v) ++ L (itemsS oneInt s false).r := again_law 3 s h
theorem again4 {s : ByteArray} (h : (itemsS oneText s false).b = false) : L s = L (listW textW (itemsS oneText s false).v) ++ L (itemsS oneText s false).r := again_law 4 s h
end Go.Proofs.YtliagfabkkcohaaDoor
