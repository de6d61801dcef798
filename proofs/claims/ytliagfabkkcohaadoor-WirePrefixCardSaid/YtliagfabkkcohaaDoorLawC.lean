/-
  The plain laws of package wire: what was written is read, by whichever value. Conditions: none.
-/
import Derived.Test.YtliagfabkkcohaaDoorLawR
namespace Go.Proofs.YtliagfabkkcohaaDoor

theorem intL_of {l : List Int} {r : ByteArray} {t : List UInt8} (hk : ∀ x ∈ l, isInt x) (hl : l.length ≤ 1000000) (h : L r = L (listW intW l) ++ t) : itemsS oneInt r false = ⟨l, B t, false⟩ :=
  itemsS_of (one := oneInt) (W := intW) (ok := isInt) (fun x r t hx h => int_of h hx hx.1) hk hl h
theorem textL_of {l : List ByteArray} {r : ByteArray} {t : List UInt8} (hk : ∀ x ∈ l, x.size ≤ 1000000000) (hl : l.length ≤ 1000000) (h : L r = L (listW textW l) ++ t) : itemsS oneText r false = ⟨l, B t, false⟩ :=
  itemsS_of (one := oneText) (W := textW) (ok := fun x => x.size ≤ 1000000000) (fun x r t hx h => text_of h (by omega)) hk hl h
theorem read_of {v : Val} (hv : v.ok) (hf : v.few) {r : ByteArray} {t : List UInt8} (h : L r = L (writeW v) ++ t) : againV (kindV v.k) r = (writeW v, B t, false) ∧ readV v r false = (true, B t, false) := by
  obtain ⟨h1, h2, h3⟩ := hv
  obtain ⟨f1, f2, f3, f4⟩ := hf
  have ha := absV_bd h2
  unfold againV readV
  unfold writeW at h ⊢
  generalize kindV v.k = k at h ⊢
  split
  · rename_i hk
    rw [if_pos hk] at h
    try simp only [if_pos hk]
    have hn : numW (absV v.n) = intW (absV v.n) := by rw [numW, if_neg (by omega)]
    rw [hn] at h
    rw [int_of h (by unfold isInt; omega) ha.1]
    exact ⟨rfl, by simp⟩
  · rename_i hk
    rw [if_neg hk] at h
    try simp only [if_neg hk]
    split
    · rename_i hk
      rw [if_pos hk] at h
      try simp only [if_pos hk]
      rw [int_of h h2 h2.1]
      exact ⟨rfl, by simp⟩
    · rename_i hk
      rw [if_neg hk] at h
      try simp only [if_neg hk]
      split
      · rename_i hk
        rw [if_pos hk] at h
        try simp only [if_pos hk]
        rw [text_of h (by omega)]
        exact ⟨rfl, by simp⟩
      · rename_i hk
        rw [if_neg hk] at h
        try simp only [if_neg hk]
        split
        · rename_i hk
          rw [if_pos hk] at h
          try simp only [if_pos hk]
          rw [intL_of h3 (by omega) h]
          exact ⟨rfl, by simp⟩
        · rename_i hk
          rw [if_neg hk] at h
          try simp only [if_neg hk]
          rw [textL_of (fun x hx => by have := f4 x hx; omega) (by omega) h]
          exact ⟨rfl, by simp⟩
theorem prefix_law {p q : Val} (hp : p.ok) (fp : p.few) (hq : q.ok) (fq : q.few) (hk : kindV p.k = kindV q.k) {t : List UInt8} (h : L (writeW q) = L (writeW p) ++ t) : writeW p = writeW q := by
  have h1 := (read_of hp fp h).1
  have h2 := (read_of hq fq (r := writeW q) (t := []) (by simp)).1
  rw [hk, h2] at h1
  exact (congrArg (·.1) h1).symm
theorem self_law {p q : Val} (hq : q.ok) (fq : q.few) (h : writeW p = writeW q) : readV q (writeW p) false = (true, emp, false) :=
  (read_of hq fq (r := writeW p) (t := []) (by rw [h]; simp)).2
theorem flat8_len {α : Type} {W : α → ByteArray} {n : Nat} : ∀ {l : List α}, (∀ x ∈ l, (W x).size ≤ n) → (flat8 W l).length ≤ n * l.length
  | [], _ => by simp [flat8]
  | x :: l, h => by
    have h1 := flat8_len (l := l) (fun y hy => h y (List.mem_cons_of_mem _ hy))
    have h2 := h x List.mem_cons_self
    have h3 : flat8 W (x :: l) = L (W x) ++ flat8 W l := by simp [flat8]
    rw [h3, List.length_append, L_len, List.length_cons, Nat.mul_succ]
    omega
theorem intW_sz {n : Int} (h : isInt n) : (intW n).size ≤ 21 := by
  have h1 := itoa_length h
  rw [← L_len, intW_L]
  simp only [List.length_append, List.length_cons, List.length_nil]
  omega
theorem textW_sz {s : ByteArray} (h : s.size ≤ 400) : (textW s).size ≤ 422 := by
  have h1 := itoa_length (n := (s.size : Int)) (by unfold isInt; omega)
  rw [← L_len, textW_L]
  simp only [List.length_append, List.length_cons, List.length_nil, L_len]
  omega
theorem listW_len {α : Type} {W : α → ByteArray} {l : List α} {n : Nat} (h : ∀ x ∈ l, (W x).size ≤ n) (hn : n ≤ 422) (hl : l.length ≤ 400) : (listW W l).size ≤ 200000 := by
  have h1 := itoa_length (n := (l.length : Int)) (by unfold isInt; omega)
  have h2 := flat8_len h
  have h3 : n * l.length ≤ 422 * 400 := Nat.mul_le_mul hn hl
  rw [← L_len, listW_L]
  simp only [List.length_append, List.length_cons, List.length_nil]
  omega
theorem writeW_len {v : Val} (hv : v.ok) (hf : v.few) : (writeW v).size ≤ 200000 := by
  obtain ⟨h1, h2, h3⟩ := hv
  obtain ⟨f1, f2, f3, f4⟩ := hf
  have ha := absV_bd h2
  unfold writeW
  split
  · rw [numW, if_neg (by omega)]
    have := intW_sz (n := absV v.n) (by unfold isInt; omega)
    omega
  · split
    · have := intW_sz h2
      omega
    · split
      · have := textW_sz f3
        omega
      · split
        · exact listW_len (n := 21) (fun x hx => intW_sz (h3 x hx)) (by omega) f1
        · exact listW_len (n := 422) (fun x hx => textW_sz (f4 x hx)) (by omega) f2
theorem cut_app {a b : ByteArray} (h : b.extract 0 a.size = a) : L b = L a ++ (L b).drop a.size := by
  have h1 : L (b.extract 0 a.size) = (L b).take a.size := ext_list _ _
  rw [h] at h1
  rw [h1, List.take_append_drop]
end Go.Proofs.YtliagfabkkcohaaDoor
