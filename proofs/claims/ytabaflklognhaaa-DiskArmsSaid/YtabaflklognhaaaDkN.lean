/-
  Bytes of strings that are put and cut; small. Conditions: none.
-/
import Derived.Test.YtabaflklognhaaaDkM
namespace Go.Proofs.Ytabaflklognhaaa
open Go.RowKit Go.ChangeMaps

def bt (s : ByteArray) (i : Nat) : UInt8 := (s.data.toList[i]?).getD 0
theorem ext_list (s : ByteArray) (a b : Nat) : (s.extract a b).data.toList = (s.data.toList.drop a).take (b - a) := by
  simp only [ByteArray.data_extract, Array.toList_extract, List.extract_eq_take_drop]
theorem ba_ext {a b : ByteArray} (h : a.data.toList = b.data.toList) : a = b := by
  apply ByteArray.ext
  exact Array.ext' h
theorem bt_out {s : ByteArray} {i : Nat} (h : s.size ≤ i) : bt s i = 0 := by
  have := Lib.size_eq s
  simp [bt, List.getElem?_eq_none (by omega : s.data.toList.length ≤ i)]
theorem bt_in {s : ByteArray} {i : Nat} (h : i < s.size) : s.data.toList[i]? = some (bt s i) := by
  have := Lib.size_eq s
  have h2 : i < s.data.toList.length := by omega
  simp [bt, List.getElem?_eq_getElem h2]
theorem ba_eq {a b : ByteArray} (hs : a.size = b.size) (h : ∀ i, i < a.size → bt a i = bt b i) : a = b := by
  have h1 := Lib.size_eq a
  have h2 := Lib.size_eq b
  apply ba_ext
  refine List.ext_getElem? fun i => ?_
  by_cases hi : i < a.size
  · rw [bt_in hi, bt_in (by omega), h i hi]
  · rw [List.getElem?_eq_none (by omega), List.getElem?_eq_none (by omega)]
theorem bt_ext (s : ByteArray) (a b i : Nat) : bt (s.extract a b) i = if a + i < b then bt s (a + i) else 0 := by
  unfold bt
  rw [ext_list, List.getElem?_take]
  by_cases h : a + i < b
  · rw [if_pos h, if_pos (by omega), List.getElem?_drop]
  · rw [if_neg h, if_neg (by omega)]
    rfl
theorem splice_get {l m : List UInt8} {o i : Nat} (h : o + m.length ≤ l.length) : (splice l o m)[i]? = if o ≤ i ∧ i < o + m.length then m[i - o]? else l[i]? := by
  unfold splice
  rw [List.append_assoc]
  by_cases h1 : i < o
  · rw [List.getElem?_append_left (by simp; omega), List.getElem?_take, if_pos h1, if_neg (by omega)]
  · rw [List.getElem?_append_right (by simp; omega)]
    have e : (l.take o).length = o := by simp; omega
    rw [e]
    by_cases h2 : i - o < m.length
    · rw [List.getElem?_append_left h2, if_pos (by omega)]
    · rw [List.getElem?_append_right (by omega), List.getElem?_drop, if_neg (by omega)]
      congr 1
      omega
theorem bt_put (s : ByteArray) (at_ : Nat) (t : ByteArray) (i : Nat) : bt (putB s at_ t) i = if at_ ≤ i ∧ i < at_ + t.size then bt t (i - at_) else bt s i := by
  have h1 := Lib.size_eq s
  have h2 := Lib.size_eq t
  unfold putB
  by_cases h0 : t.size = 0
  · rw [if_pos h0, if_neg (by omega)]
  · rw [if_neg h0]
    have e1 : (List.replicate (max s.size (at_ + t.size)) (0 : UInt8)).length = max s.size (at_ + t.size) := by simp
    have e2 : (splice (List.replicate (max s.size (at_ + t.size)) 0) 0 s.data.toList).length = max s.size (at_ + t.size) := by rw [splice_len] <;> simp <;> omega
    show ((splice _ _ _)[i]?).getD 0 = _
    rw [splice_get (by rw [e2]; omega), ← h2]
    by_cases hc : at_ ≤ i ∧ i < at_ + t.size
    · rw [if_pos hc, if_pos hc]
      rfl
    · rw [if_neg hc, if_neg hc, splice_get (by rw [e1]; omega), ← h1]
      by_cases hi : i < s.size
      · rw [if_pos (by omega), Nat.sub_zero]
        rfl
      · rw [if_neg (by omega), bt_out (by omega)]
        rw [List.getElem?_replicate]
        split <;> rfl
theorem cut_all {s : ByteArray} (h : s.size ≤ 16777216) : cutB s 0 16777216 = s := by
  have h1 := Lib.size_eq s
  apply ba_ext
  unfold cutB
  rw [ext_list, show (min (0 : Int) s.size).toNat = 0 by omega, show (min ((0 : Int) + 16777216) s.size).toNat = s.size by omega, List.drop_zero, List.take_of_length_le (by omega)]
theorem survs_nil : ∀ (Q : List Sec) (i : Nat) (F : Int → Fl), survs [] i Q F = F
  | [], _, _ => rfl
  | p :: Q, i, F => by
    unfold survs
    rw [if_neg (by simp [keepAt])]
    exact survs_nil Q (i + 1) F
abbrev sABC : ByteArray := ⟨#[97, 98, 99]⟩
def sm1 : DS := (writeR DS.new 0 0 sABC).2
def sm2 : DS := (syncR sm1 0).2
def sm3 : DS := (writeR sm2 0 1 ⟨#[88, 89]⟩).2
def sm4 : DS := crashS sm3 [1]
def sm5 : DS := upS sm4
def sc1 : DS := upS (crashS sm3 [0])
def sc2 : DS := (writeR sc1 1 62 ⟨#[97, 98, 99, 100]⟩).2
def sc3 : DS := upS (crashS sc2 [0, 1])
def sc4 : DS := (writeR sc3 16 0 ⟨#[]⟩).2
theorem sm_facts : (writeR DS.new 0 0 sABC).1 = 0 ∧ (syncR sm1 0).1 = 0 ∧ sm4.down = true ∧ (readP sm4 0 0 9).2 = 8 ∧ readP sm5 0 0 9 = (⟨#[97, 88, 89]⟩, 0) ∧ readP sc1 0 1 9 = (⟨#[98, 99]⟩, 0) ∧ (writeR sc1 1 62 ⟨#[97, 98, 99, 100]⟩).1 = 0 ∧
    readP sc3 1 60 100 = (⟨#[0, 0, 0, 0, 99, 100]⟩, 0) ∧ (sc3.F 1).now.size = 66 ∧ (writeR sc3 16 0 ⟨#[]⟩).1 = 1 ∧ (writeR sc4 1 16777216 ⟨#[97]⟩).1 = 6 := by
  decide +kernel
end Go.Proofs.Ytabaflklognhaaa
