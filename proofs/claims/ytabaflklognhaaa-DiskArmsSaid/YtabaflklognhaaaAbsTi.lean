/-
  What the summary of a type says of the program. Conditions: none.
-/
import Derived.Test.YtabaflklognhaaaAbsCode
namespace Go.Proofs.Ytabaflklognhaaa
open Go.RowKit

theorem mapM_get {α β : Type} {g : α → Option β} : ∀ {l : List α} {r : List β}, l.mapM g = some r → ∀ {i : Nat} {y : β}, r[i]? = some y → ∃ x, l[i]? = some x ∧ g x = some y := by
  intro l
  induction l with
  | nil => intro r h i y hy; simp at h; subst h; simp at hy
  | cons x l ih =>
    intro r h i y hy
    rw [List.mapM_cons] at h
    cases hx : g x with
    | none => rw [hx] at h; simp at h
    | some z =>
      cases hl : l.mapM g with
      | none => rw [hx, hl] at h; simp at h
      | some r' =>
        rw [hx, hl] at h
        simp at h
        subst h
        cases i with
        | zero => simp at hy; subst hy; exact ⟨x, by simp, hx⟩
        | succ i =>
          obtain ⟨x', h1, h2⟩ := ih hl (i := i) (by simpa using hy)
          exact ⟨x', by simpa using h1, h2⟩
def isOne : TI → Bool
  | .one _ => true
  | .sl .. => true
  | _ => false
def aggK : TI → Option Nat
  | .st z _ => some z.length
  | .ar _ _ _ z => some z.length
  | _ => none
theorem ti_st {t : TypeId} {z : List Value} {fs : List (Nat × Nat × Nat)} (h : ti t = .st z fs) : ∃ (i : TypeInfo) (F : Array Field), Try.prog.info? t = some i ∧ Try.prog.underlying t = some (.struct F) ∧ i.size = z.length ∧ i.zero = some (.agg z.toArray) ∧
    F.toList.mapM (fun f => (Try.prog.info? f.type).map fun j => (f.offset, j.size, f.type)) = some fs := by
  have hk := tiok t (by rw [h]; intro e; cases e)
  rw [h] at hk
  unfold tiOf at hk
  split at hk
  · rename_i i F h1 h2
    split at hk
    · rename_i z' pl h3 h4
      split at hk
      · rename_i hsz
        simp only [TI.st.injEq] at hk
        obtain ⟨rfl, rfl⟩ := hk
        exact ⟨i, F, h1, h2, by simp [hsz], by simpa using h3, h4⟩
      · cases hk
    · cases hk
  · split at hk
    · split at hk <;> cases hk
    · cases hk
  · split at hk
    · split at hk
      · split at hk <;> cases hk
      · cases hk
    · cases hk
  · split at hk
    · split at hk <;> cases hk
    · cases hk
  · cases hk
theorem ti_ar {t e : TypeId} {n es : Nat} {z : List Value} (h : ti t = .ar n e es z) : ∃ (i j : TypeInfo), Try.prog.info? t = some i ∧ Try.prog.underlying t = some (.array n e) ∧ i.size = z.length ∧ i.zero = some (.agg z.toArray) ∧ Try.prog.info? e = some j ∧ j.size = es := by
  have hk := tiok t (by rw [h]; intro e; cases e)
  rw [h] at hk
  unfold tiOf at hk
  split at hk
  · split at hk
    · split at hk <;> cases hk
    · cases hk
  · rename_i i n' e h1 h2
    split at hk
    · rename_i z' j h3 h4
      split at hk
      · rename_i hsz
        simp only [TI.ar.injEq] at hk
        obtain ⟨rfl, rfl, rfl, rfl⟩ := hk
        exact ⟨i, j, h1, h2, by simp [hsz], by simpa using h3, h4, rfl⟩
      · cases hk
    · cases hk
  · split at hk
    · split at hk
      · split at hk <;> cases hk
      · cases hk
    · cases hk
  · split at hk
    · split at hk <;> cases hk
    · cases hk
  · cases hk
theorem ti_sl {t e : TypeId} {es eb : Nat} {ez : Value} (h : ti t = .sl e es eb ez) : ∃ (i j : TypeInfo), Try.prog.info? t = some i ∧ Try.prog.underlying t = some (.slice e) ∧ i.size = 1 ∧ Try.prog.info? e = some j ∧ j.zero = some ez ∧ j.size = es ∧ j.bytes = eb ∧ ez.cells.size = es := by
  have hk := tiok t (by rw [h]; intro e; cases e)
  rw [h] at hk
  unfold tiOf at hk
  split at hk
  · split at hk
    · split at hk <;> cases hk
    · cases hk
  · split at hk
    · split at hk <;> cases hk
    · cases hk
  · rename_i i e' h1 h2
    split at hk
    · rename_i j h3
      split at hk
      · rename_i ez' h4
        split at hk
        · rename_i hsz
          simp only [TI.sl.injEq] at hk
          obtain ⟨rfl, rfl, rfl, rfl⟩ := hk
          exact ⟨i, j, h1, h2, hsz.1, h3, h4, rfl, rfl, hsz.2⟩
        · cases hk
      · cases hk
    · cases hk
  · split at hk
    · split at hk <;> cases hk
    · cases hk
  · cases hk
theorem ti_one {t : TypeId} {z : Value} (h : ti t = .one z) : ∃ (i : TypeInfo) (dsc : TypeDesc), Try.prog.info? t = some i ∧ Try.prog.underlying t = some dsc ∧ (∀ F, dsc ≠ .struct F) ∧ (∀ n e, dsc ≠ .array n e) ∧ i.size = 1 ∧ i.zero = some z ∧ z.oneCell' = true := by
  have hk := tiok t (by rw [h]; intro e; cases e)
  rw [h] at hk
  unfold tiOf at hk
  split at hk
  · split at hk
    · split at hk <;> cases hk
    · cases hk
  · split at hk
    · split at hk <;> cases hk
    · cases hk
  · split at hk
    · split at hk
      · split at hk <;> cases hk
      · cases hk
    · cases hk
  · rename_i i dsc hn1 hn2 hn3 h1 h2
    split at hk
    · rename_i z' h3
      split at hk
      · rename_i hsz
        simp only [TI.one.injEq] at hk
        subst hk
        exact ⟨i, dsc, h1, h2, hn1, hn2, hsz.1, h3, hsz.2⟩
      · cases hk
    · cases hk
  · cases hk
section
variable {t : TypeId} (w : World)
theorem run_isAgg_one (h : isOne (ti t) = true) : (isAgg t).run Try.prog w = .ok false w := by
  cases hti : ti t with
  | one z =>
    obtain ⟨i, dsc, _, h2, hn1, hn2, _⟩ := ti_one hti
    simp only [isAgg, run_underlying h2, Sem.run_bind, Result.andThen]
    cases dsc <;> first | rfl | exact absurd rfl (hn1 _) | exact absurd rfl (hn2 _ _)
  | sl e es eb ez =>
    obtain ⟨i, j, _, h2, _⟩ := ti_sl hti
    simp [isAgg, run_underlying h2]
  | _ => rw [hti] at h; cases h
theorem run_isAgg_agg {k : Nat} (h : aggK (ti t) = some k) : (isAgg t).run Try.prog w = .ok true w ∧ (sizeOf t).run Try.prog w = .ok k w := by
  cases hti : ti t with
  | st z fs =>
    obtain ⟨i, F, h1, h2, h3, _⟩ := ti_st hti
    rw [hti] at h
    simp only [aggK, Option.some.injEq] at h
    simp [isAgg, run_underlying h2, sizeOf, typeInfo, h1, h3, h]
  | ar n e es z =>
    obtain ⟨i, j, h1, h2, h3, _⟩ := ti_ar hti
    rw [hti] at h
    simp only [aggK, Option.some.injEq] at h
    simp [isAgg, run_underlying h2, sizeOf, typeInfo, h1, h3, h]
  | _ => rw [hti] at h; cases h
theorem run_sizeOf_one (h : isOne (ti t) = true) : (sizeOf t).run Try.prog w = .ok 1 w := by
  cases hti : ti t with
  | one z =>
    obtain ⟨i, dsc, h1, _, _, _, h3, _⟩ := ti_one hti
    simp [sizeOf, typeInfo, h1, h3]
  | sl e es eb ez =>
    obtain ⟨i, j, h1, _, h3, _⟩ := ti_sl hti
    simp [sizeOf, typeInfo, h1, h3]
  | _ => rw [hti] at h; cases h
theorem run_load_one {a : Addr} {v : Value} (h : isOne (ti t) = true) (hc : w.cell? a = some v) : (Instr.loadAt t (.pointer (some a))).run Try.prog w = .ok v w := by
  simp [Instr.loadAt, Instr.sureAddr, loadVar, run_isAgg_one w h, load, Sem.run, hc]
theorem run_load_agg {b o k : Nat} {cs : List Value} (h : aggK (ti t) = some k) (hl : cs.length = k) (hc : ∀ j v, cs[j]? = some v → w.cell? ⟨b, o + j, none⟩ = some v) : (Instr.loadAt t (.pointer (some ⟨b, o, none⟩))).run Try.prog w = .ok (.agg cs.toArray) w := by
  have h2 := run_loadCells_list (P := Try.prog) w ⟨b, o, none⟩ cs (fun j v hj => by rw [Addr.add_lit]; exact hc j v hj)
  rw [hl] at h2
  obtain ⟨h3, h4⟩ := run_isAgg_agg w h
  simp [Instr.loadAt, Instr.sureAddr, loadVar, h3, h4, h2]
theorem run_field_addr {z : List Value} {fs : List (Nat × Nat × Nat)} {f off n ft b o : Nat} (h : ti t = .st z fs) (hf : fs[f]? = some (off, n + 1, ft)) : (Instr.fieldAt t (.pointer (some ⟨b, o, none⟩)) f).run Try.prog w = .ok (.pointer (some ⟨b, o + off, none⟩)) w := by
  obtain ⟨i, F, h1, h2, h3, h4, h5⟩ := ti_st h
  obtain ⟨x, hx, hy⟩ := mapM_get h5 hf
  simp only [Option.map_eq_some_iff] at hy
  obtain ⟨j, hj, he⟩ := hy
  simp only [Prod.mk.injEq] at he
  obtain ⟨rfl, he2, rfl⟩ := he
  have hx' : F[f]? = some x := by simpa using hx
  simp [Instr.fieldAt, run_underlying h2, hx', Instr.sureAddr, fieldPlace, sizeOf, typeInfo, hj, he2, Addr.add_lit]
end
end Go.Proofs.Ytabaflklognhaaa
