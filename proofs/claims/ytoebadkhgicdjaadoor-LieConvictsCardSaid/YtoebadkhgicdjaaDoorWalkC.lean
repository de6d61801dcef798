/-
  The walks of package wire: strings and lists that a reader reads. Conditions: none.
-/
import Derived.Test.YtoebadkhgicdjaaDoorWalkB
set_option linter.unusedSimpArgs false
set_option linter.unusedVariables false
namespace Go.Proofs.YtoebadkhgicdjaaDoor
open Go.RowKit

open Classical in
/-- the int that stands at the beginning -/
noncomputable def numR (r : ByteArray) (c : UInt8) (least : Int) : Option Int := if h : ∃ n, numIs r c least n then some (Classical.choose h) else none
theorem numIs_unique {r : ByteArray} {c : UInt8} {least n m : Int} (h : numIs r c least n) (h' : numIs r c least m) : n = m := by
  have h1 := h.2.1
  rw [h'.2.1] at h1
  injection h1 with h1
  exact h1.symm
theorem numR_some {r : ByteArray} {c : UInt8} {least n : Int} (h : numIs r c least n) : numR r c least = some n := by
  have he : ∃ n, numIs r c least n := ⟨n, h⟩
  unfold numR
  rw [dif_pos he, numIs_unique (Classical.choose_spec he) h]
theorem numR_none {r : ByteArray} {c : UInt8} {least : Int} (h : ∀ n, ¬ numIs r c least n) : numR r c least = none := by
  unfold numR
  rw [dif_neg (fun ⟨n, hn⟩ => h n hn)]
theorem numR_is {r : ByteArray} {c : UInt8} {least n : Int} (h : numR r c least = some n) : numIs r c least n := by
  by_cases he : ∃ n, numIs r c least n
  · obtain ⟨m, hm⟩ := he
    rw [numR_some hm] at h
    injection h with h
    rw [← h]
    exact hm
  · rw [numR_none (fun n hn => he ⟨n, hn⟩)] at h
    cases h
structure RS (α : Type) where
  v : α
  r : ByteArray
  b : Bool
noncomputable def numS (r : ByteArray) (b : Bool) (c : UInt8) (least : Int) : RS Int := match numR r c least with
  | some n => ⟨n, behind r c, b⟩
  | none => ⟨0, emp, true⟩
theorem behind_size {r : ByteArray} {c : UInt8} {least n : Int} (h : numIs r c least n) : (behind r c).size < r.size := by
  have h1 := atV_bd r c
  have h2 := h.1
  simp only [behind, ByteArray.size_extract]
  omega
/-- what is read is gone -/
theorem numS_size (r : ByteArray) (b : Bool) (c : UInt8) (least : Int) : ((numS r b c least).b = b ∧ (numS r b c least).r.size < r.size) ∨ (numS r b c least = ⟨0, emp, true⟩) := by
  cases h : numR r c least with
  | none => right; simp only [numS, h]
  | some n =>
    left
    simp only [numS, h, true_and]
    exact behind_size (numR_is h)
theorem numS_le {r : ByteArray} {b : Bool} {c : UInt8} {least : Int} : (numS r b c least).r.size ≤ r.size := by
  rcases numS_size r b c least with h | h
  · omega
  · rw [h]; exact Nat.zero_le _
theorem num_ge {r : ByteArray} {b : Bool} {c : UInt8} {least : Int} (hl : least ≤ 0) : least ≤ (numS r b c least).v := by
  unfold numS
  cases h : numR r c least with
  | none => exact hl
  | some n => exact (numR_is h).2.2.2
theorem num_le {r : ByteArray} {b : Bool} {c : UInt8} {least : Int} : (numS r b c least).v ≤ 9223372036854775807 := by
  unfold numS
  cases h : numR r c least with
  | none => simp
  | some n => exact (atoiAll_bd (numR_is h).2.1).2
theorem number_s (r : ByteArray) (b : Bool) (c : UInt8) (least : Int) (hr : r.size ≤ 1000000000) : ObC 41 [.box 1000 0, .d (.val (.int .u8 c.toNat)), .d (.int least)] (rd r b) []
    (fun x o => x = .d (.int (numS r b c least).v) ∧ o = rd (numS r b c least).r (numS r b c least).b) :=
  (number_any r b c least hr).mono fun x o h => by
    rcases h with ⟨n, h1, h2, h3⟩ | ⟨h1, h2, h3⟩
    · simp only [numS, numR_some h1]
      exact ⟨h2, h3⟩
    · simp only [numS, numR_none h1]
      exact ⟨h2, h3⟩
attribute [local irreducible] numS
theorem num_any (r : ByteArray) (b : Bool) (hr : r.size ≤ 1000000000) : ObC 25 [.box 1000 0] (rd r b) [] (fun x o => x = .d (.int (numS r b 59 0).v) ∧ o = rd (numS r b 59 0).r (numS r b 59 0).b) := by
  refine ob_enter Tryd.func25 rfl (by decide) _ Tryd.ntmps25 (le_ok rfl) rfl (fun w Pr β κ hE => ?_)
  dsimp only [slotsV, Nat.zero_add, Nat.reduceAdd]
  repeat' (first | (apply at_op (.call { callee := .value _, args := _, argTypes := _ }); refine al_ocall [(1000, 1000)] (number_s r b 59 0 hr) rfl hE (lt_ok rfl) (by (repeat (first | refine ArgsV.cons (.same _ _ rfl) ?_ | refine ArgsV.cons (.toD _ _ (by first | exact ToD.d _ | exact ToD.row _ _ _ _ _ rfl | exact ToD.nil _)) ?_)); exact ArgsV.nil) ⟨(obs_cons rfl obs_nil), rfl, rfl, rfl, rfl⟩ ?_; (all_goals (try first | omega | assumption)); rintro _ _ ⟨rfl, rfl⟩; intro _ _ h1 h2; simp only [V.ren, V.renL, O.ren, renO, rn, dropK, keys, mem, List.map_cons, List.map_nil, List.any_cons, List.any_nil, List.cons_append, List.nil_append, nbeq_def, Nat.reduceBEq, cond_true, cond_false, Bool.or_false, Bool.false_or, Bool.true_or] at h1 h2; subst h1 h2) | apply aw_seq | apply aw_region | apply al_nil | apply aq_np | apply aq_then | apply aq_then_x | apply aq_then_r | apply aw_skip | apply aw_exit | apply aw_ret | (apply at_op (.move _); refine al_y (y_moveC (by constructor)) (lt_ok rfl) ?_) | (apply at_op (.assign _); refine al_y (y_assignC (by constructor)) (lt_ok rfl) ?_))
  refine oret1 (rd (numS r b 59 0).r (numS r b 59 0).b) (by rfl) (by first | exact ResV.x _ _ (ResX.tmp _ _ (by first | exact ToD.d _ | exact ToD.row _ _ _ _ _ rfl | exact ToD.nil _)) | exact ResV.tmp _ _ rfl | exact ResV.x _ _ (ResX.cellA _ _ _ _ _ _ _ rfl rfl rfl (by first | (simp only [normV, normList, normMap]; rfl) | rfl) rfl)) (⟨rfl, rfl⟩) (by (repeat (first | exact obs_nil | (apply obs_cons; focus (first | rfl | (simp [find]; done)))))) (by rfl)
def least64 : Int := -9223372036854775808
/-- a byte is read -/
def closeS (r : ByteArray) (b : Bool) (e : ByteArray) : ByteArray × Bool := if Lib.hasPrefix r.data.toList e.data.toList then (⟨(Lib.trimPrefix r.data.toList e.data.toList).toArray⟩, b) else (emp, true)
theorem closeS_size (r : ByteArray) (b : Bool) (e : ByteArray) : (closeS r b e).1.size ≤ r.size := by
  unfold closeS
  split
  · have : (Lib.trimPrefix r.data.toList e.data.toList).length ≤ r.data.toList.length := by
      unfold Lib.trimPrefix
      split
      all_goals first
        | exact Nat.le_refl _
        | (rw [List.length_drop]; exact Nat.sub_le _ _)
    have h2 : r.data.toList.length = r.size := by simp
    show (List.toArray _).size ≤ _
    rw [List.size_toArray]
    omega
  · exact Nat.zero_le _
noncomputable def textS (r : ByteArray) (b : Bool) : RS ByteArray :=
  let q := numS r b 58 0
  if q.v > q.r.size then ⟨emp, emp, true⟩
  else
    let c := closeS (q.r.extract q.v.toNat q.r.size) q.b ⟨#[44]⟩
    ⟨if c.2 then emp else q.r.extract 0 q.v.toNat, c.1, c.2⟩
end Go.Proofs.YtoebadkhgicdjaaDoor
