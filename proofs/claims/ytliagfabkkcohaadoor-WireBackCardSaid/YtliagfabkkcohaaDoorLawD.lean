/-
  The plain laws of package wire: the encodings of values one after the other. Conditions: none.
-/
import Derived.Test.YtliagfabkkcohaaDoorLawC
namespace Go.Proofs.YtliagfabkkcohaaDoor

theorem few_parts {l : List Val} (h : fewV l = true) : l.length ≤ 20 ∧ (∀ v ∈ l, v.few) ∧ tot l ≤ 400 := fewV_iff.1 h
theorem flat8_cons {α : Type} {W : α → ByteArray} {x : α} {l : List α} : flat8 W (x :: l) = L (W x) ++ flat8 W l := by simp [flat8]
theorem flat8_app {α : Type} {W : α → ByteArray} {a b : List α} : flat8 W (a ++ b) = flat8 W a ++ flat8 W b := by simp [flat8]
theorem ints_tot {l : List Int} (h : ∀ n ∈ l, isInt n) : (flat8 intW l).length ≤ 21 * l.length := flat8_len fun x hx => intW_sz (h x hx)
theorem texts_tot : ∀ {l : List ByteArray}, (∀ s ∈ l, s.size ≤ 400) → (flat8 textW l).length ≤ 22 * l.length + sumT l
  | [], _ => by simp [flat8]
  | s :: l, h => by
    have h1 := texts_tot (l := l) fun x hx => h x (List.mem_cons_of_mem _ hx)
    have h2 := h s List.mem_cons_self
    have h3 := itoa_length (n := (s.size : Int)) (by unfold isInt; omega)
    rw [flat8_cons, textW_L]
    simp only [List.length_append, List.length_cons, List.length_nil, L_len, sumT]
    omega
theorem writeW_tot {v : Val} (hv : v.ok) (hf : v.few) : (writeW v).size ≤ 22 + 22 * tot1 v := by
  obtain ⟨h1, h2, h3⟩ := hv
  obtain ⟨f1, f2, f3, f4⟩ := hf
  have ha := absV_bd h2
  unfold writeW tot1
  split
  · rw [numW, if_neg (by omega)]
    have := intW_sz (n := absV v.n) (by unfold isInt; omega)
    omega
  · split
    · have := intW_sz h2
      omega
    · split
      · have := itoa_length (n := (v.s.size : Int)) (by unfold isInt; omega)
        rw [← L_len, textW_L]
        simp only [List.length_append, List.length_cons, List.length_nil, L_len]
        omega
      · split
        · have h4 := itoa_length (n := (v.l.length : Int)) (by unfold isInt; omega)
          have h5 := ints_tot h3
          rw [← L_len, listW_L]
          simp only [List.length_append, List.length_cons, List.length_nil]
          omega
        · have h4 := itoa_length (n := (v.t.length : Int)) (by unfold isInt; omega)
          have h5 := texts_tot f4
          rw [← L_len, listW_L]
          simp only [List.length_append, List.length_cons, List.length_nil]
          omega
theorem cat_len : ∀ {l : List Val}, (∀ v ∈ l, v.ok) → (∀ v ∈ l, v.few) → (flat8 writeW l).length ≤ 22 * l.length + 22 * tot l
  | [], _, _ => by simp [flat8]
  | v :: l, ho, hf => by
    have h1 := cat_len (l := l) (fun x hx => ho x (List.mem_cons_of_mem _ hx)) (fun x hx => hf x (List.mem_cons_of_mem _ hx))
    have h2 := writeW_tot (ho v List.mem_cons_self) (hf v List.mem_cons_self)
    rw [flat8_cons, List.length_append, L_len, List.length_cons]
    simp only [tot]
    omega
theorem cat_take {l : List Val} (i : Nat) (ho : ∀ v ∈ l, v.ok) (hf : ∀ v ∈ l, v.few) : (B (flat8 writeW (l.take i))).size ≤ 22 * l.length + 22 * tot l := by
  have h1 := cat_len ho hf
  have h2 : flat8 writeW l = flat8 writeW (l.take i) ++ flat8 writeW (l.drop i) := by rw [← flat8_app, List.take_append_drop]
  rw [h2, List.length_append] at h1
  rw [← L_len, L_B]
  omega
theorem cat_next {l : List Val} {i : Nat} (h : i < l.length) : B (flat8 writeW (l.take (i + 1))) = B (flat8 writeW (l.take i)) ++ writeW l[i] := by
  rw [List.take_add_one, List.getElem?_eq_getElem h, Option.toList_some, flat8_app, flat8_cons]
  apply ba_ext
  show _ = L (B (flat8 writeW (l.take i)) ++ writeW l[i])
  rw [L_app, L_B]
  show flat8 writeW (l.take i) ++ (L (writeW l[i]) ++ flat8 writeW []) = _
  simp [flat8]
/-- what is still to be read -/
def restW (l : List Val) (t : ByteArray) (i : Nat) : ByteArray := B (flat8 writeW (l.drop i) ++ L t)
theorem rest_first {l : List Val} {t : ByteArray} : restW l t 0 = B (flat8 writeW l) ++ t := by
  apply ba_ext
  show L (restW l t 0) = L (B (flat8 writeW l) ++ t)
  rw [L_app, L_B, restW, L_B, List.drop_zero]
theorem rest_last {l : List Val} {t : ByteArray} : restW l t l.length = t := by
  rw [restW, List.drop_length]
  exact B_L t
theorem rest_len {l : List Val} {t : ByteArray} (i : Nat) (ho : ∀ v ∈ l, v.ok) (hf : ∀ v ∈ l, v.few) (h1 : l.length ≤ 20) (h2 : tot l ≤ 400) (h3 : t.size ≤ 400) : (restW l t i).size ≤ 100000 := by
  have h4 := cat_len ho hf
  have h5 : flat8 writeW l = flat8 writeW (l.take i) ++ flat8 writeW (l.drop i) := by rw [← flat8_app, List.take_append_drop]
  rw [h5, List.length_append] at h4
  rw [← L_len, restW, L_B, List.length_append, L_len]
  omega
theorem rest_next {l : List Val} {t : ByteArray} {i : Nat} (h : i < l.length) (ho : l[i].ok) (hf : l[i].few) : readV l[i] (restW l t i) false = (true, restW l t (i + 1), false) := by
  refine (read_of ho hf (t := flat8 writeW (l.drop (i + 1)) ++ L t) ?_).2
  rw [restW, L_B, List.drop_eq_getElem_cons h, flat8_cons, List.append_assoc]
end Go.Proofs.YtliagfabkkcohaaDoor
