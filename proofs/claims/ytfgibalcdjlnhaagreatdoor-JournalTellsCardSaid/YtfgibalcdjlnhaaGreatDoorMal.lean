/-
  Copies of maps; structs with objects in them, loaded whole; over abstract states. Conditions: none.
  Functions with labels that no goto jumps to, over abstract states. Conditions: none.
  A slice that is made, filled by copy from a list, and handed out; over abstract states. Conditions: elements of one cell.
  Pointers that are nil, and rows that are read as lists from now on; over abstract states. Conditions: none.
  Bytes of a string that are changed: []byte(s), append, a byte put, back to a string. Conditions: none.
  From a walk of a law to what its row asks: it returns true, and each argument reads as it did. Conditions: only memory of the call's own has turned.
  From data that came in to what the abstract walks read. Conditions: none.
  What cells of a type show, type by type. Conditions: none.
-/
import Derived.Laws.Externs
import Derived.Laws.Cover3
import Derived.MapKept
import Derived.WalkKit
import Derived.WalkMore
import Derived.Laws.CopyRow
import Derived.Laws.IdiomCopy
import Derived.Lib.ConvBytes
import Derived.Laws.IdiomStrings
import Derived.Test.YtfgibalcdjlnhaaGreatDoorRows
import Derived.ProofKit
import Derived.OpenShut
import Derived.ChangeOld
import Derived.SizedLaws
import Derived.Deep.SlicePairs
import Derived.Lib.SmallJoins
import Derived.Deep.Slices
import Derived.Test.YtfgibalcdjlnhaaGreatDoorMak
section
namespace Go.Proofs.YtfgibalcdjlnhaaGreatDoor
open Go.RowKit Go.ChangeMaps

section
variable {E : Entry} {sl : Slots} {ob : Objs} {a : Act} {w : World} {Pr : Prot} {β : Nat → Value} {κ : Nat → Nat}
variable {d : Option Nat} {t T ty : TypeId} {p : String} {af : Array Edge} {g : Option (Nat × Bool)} {x y c : Operand} {m : Int}
end
end Go.Proofs.YtfgibalcdjlnhaaGreatDoor
end
section
namespace Go.Proofs.YtfgibalcdjlnhaaGreatDoor
open Go.RowKit

section
variable {E : Entry} {sl : Slots} {ob : Objs} {Q : Exit → Go.Act → World → Prop} {x : Code} {id n : Nat}
theorem aw_scope (h : AW E x (Exit.noGoto Q) sl ob) : AW E (.scope x) Q sl ob := ⟨fun a w hi => wp_scope_straight (h.run a w hi)⟩
theorem aw_label (h : AQ E .normal Q sl ob) : AW E (.label n) Q sl ob := ⟨fun a w hi => wp_label (h.run a w hi)⟩
theorem aq_ng_n (h : AQ E .normal Q sl ob) : AQ E .normal (Exit.noGoto Q) sl ob := ⟨h.run⟩
theorem aq_ng_r (h : AQ E .ret Q sl ob) : AQ E .ret (Exit.noGoto Q) sl ob := ⟨h.run⟩
theorem aq_ng_x (h : AQ E (.exit id) Q sl ob) : AQ E (.exit id) (Exit.noGoto Q) sl ob := ⟨h.run⟩
end
end Go.Proofs.YtfgibalcdjlnhaaGreatDoor
end
section
namespace Go.Proofs.YtfgibalcdjlnhaaGreatDoor
open Go.RowKit

section
variable {E : Entry} {sl : Slots} {ob : Objs} {a : Go.Act} {w : World} {Pr : Prot} {β : Nat → Value} {κ : Nat → Nat}
variable {d : Nat} {dd : Option Nat} {t T ty : TypeId} {p : String} {af : Array Edge} {g : Option (Nat × Bool)} {x y c : Operand} {m m' : Int}
theorem Good.setobj2 (h : Good E sl ob a w Pr β κ) {i b : Nat} {o o' : O} (hf : find ob i = some o) (hb : blk (β i) = some b) {cs : Array Value} {T : TypeId} (hno : ∀ q, ¬ Pr b q) (hold : ∃ c0, w.heap[b]? = some (.cells c0 T (0, 0)))
    (ho : (∀ (v : Value) (x : V), RepV w Pr β κ v x → RepV (w.setRow b cs) Pr β κ v x) → RepO (w.setRow b cs) Pr 0 β κ i o') : Good E sl ((i, o') :: ob) a (w.setRow b cs) Pr β κ := by
  obtain ⟨c0, hold⟩ := hold
  have hs : Stays Pr w (w.setRow b cs) := fun b' q hq => World.cell?_of_block (a := ⟨b', q, none⟩) (setRow_other w b b' cs (by rintro rfl; exact hno q hq))
  have hE := h.below.size
  have hbo := h.own i o b hf hb
  have hx : Under (fun g => g = b) w (w.setRow b cs) := ⟨rfl, rfl, rfl, by simp [World.setRow], fun k _ hn => setRow_other w b k cs hn⟩
  refine ⟨h.below.then hx (fun g hg => hg ▸ hbo), fun b' q hq => (hs b' q (h.pr0 b' q hq)).trans (h.st0 b' q hq), h.pr0, h.prn, fun b' q hq => by have := h.prl b' q hq; simpa [World.setRow] using this, h.size, h.defers, fun j => (h.slots j).keep hs (fun _ _ h => h), fun j oj hj => ?_, fun j k oj ok g hj hk => ?_, fun j oj g hj hg => ?_, h.keeps, h.fresh⟩
  rotate_right 1
  · by_cases hji : j = i
    · subst hji
      exact h.own j o g hf hg
    · exact h.own j oj g (find_other hji hj) hg
  · by_cases hji : j = i
    · subst hji
      rw [find_eq] at hj
      cases hj
      exact ho (fun v x hv => hv.keep hs (fun _ _ h => h))
    · have hj' := find_other hji hj
      refine (h.objs j oj hj').keep hs (fun _ _ h => h) (fun _ _ h => .inl h) (fun g hg => setRow_other w b g cs ?_)
      rintro rfl
      exact hji (h.apart j i oj o _ hj' hf hg hb)
  · have key : ∀ m om, find ((i, o') :: ob) m = some om → ∃ om', find ob m = some om' := by
      intro m om hm
      by_cases hmi : m = i
      · exact ⟨o, hmi ▸ hf⟩
      · exact ⟨om, find_other hmi hm⟩
    obtain ⟨oj', hj'⟩ := key j oj hj
    obtain ⟨ok', hk'⟩ := key k ok hk
    exact h.apart j k oj' ok' g hj' hk'
theorem Good.twice (h : Good E sl ob a w Pr β κ) {i : Nat} {o : O} (hf : find ob i = some o) : Good E sl ((i, o) :: ob) a w Pr β κ := by
  have e : ∀ j, find ((i, o) :: ob) j = find ob j := fun j => by
    by_cases hj : j = i
    · subst hj
      rw [find_eq, hf]
    · rw [find_ne hj]
  exact ⟨h.below, h.st0, h.pr0, h.prn, h.prl, h.size, h.defers, h.slots, fun j oj hj => h.objs j oj (by rw [← e]; exact hj), fun j k oj ok g hj hk => h.apart j k oj ok g (by rw [← e]; exact hj) (by rw [← e]; exact hk), fun j oj g hj => h.own j oj g (by rw [← e]; exact hj), h.keeps, h.fresh⟩
set_option maxRecDepth 20000 in
/-- make([]T, n) -/
theorem st_mkvec {n e eb : Nat} {ez : Value} {k k' : IntKind} {l : List (List D)} (hx : ev sl x = .d (.val (.int k m))) (hy : ev sl y = .d (.val (.int k' m'))) (hT : ti t = .sl e 1 eb ez) (h1 : ez.oneCell' = true) (hm : m = (n : Int)) (hm' : m' = (n : Int)) (hb : eb * n ≤ 281474976710656) (hn : n ≤ 9223372036854775807) (hl : List.replicate n [.val ez] = l) (hd : d < E.n) (hno : noneOf d sl ob = true) :
    Step E ⟨some d, .makeSlice t x y, T, p, af, g⟩ sl ob ((d, .row d 0) :: sl) ((d, .vec e 1 0 l) :: ob) := by
  subst hl
  rintro a w ⟨Pr, β, κ, h⟩ K Q hK
  obtain ⟨hrun, hes, hc⟩ := mk_now w (k := k) (k' := k') hT h1 hm hm' hb hn
  have hx' : Below w.heap.size w (w.alloc (.cells (List.replicate n ez).toArray e)) := (Below.refl _ _).alloc (Nat.le_refl _) _
  unfold Oper.wp
  have hrun2 : (execOp a.eval ⟨some d, .makeSlice t x y, T, p, af, g⟩).run Tryz.prog w = .ok (.value (.slice (some ⟨w.heap.size, 0, none⟩) n n)) (w.alloc (.cells (List.replicate n ez).toArray e)) := by
    simp only [execOp, good_val h hx, good_val h hy, Sem.run_bind, hrun]
    rfl
  rw [hrun2, Oper.upon_value]
  refine hK _ _ (h.newobj hd hno (Pr' := Pr) (v := .slice (some ⟨w.heap.size, 0, none⟩) n n) hx' (fun _ _ h => h) (fun _ _ h => .inl h) (fun g hg => by simp [blk] at hg; omega) ?_ (fun β' κ' e1 e2 _ _ => .row d 0 _ ⟨_, _, _, rfl⟩ (Nat.zero_le _) (fun _ => e1.symm)))
  intro β' κ' e1 e2 e3 e4
  refine ⟨e2, List.replicate n ez, ⟨by simp, .inr ⟨w.heap.size, n, (List.replicate n ez).toArray, by rw [e1, List.length_replicate], Nat.zero_le _, heap_alloc_new w _, by simp, hn, by simp, by simp⟩⟩, fun x hx => ?_, fun q j x z h3 h4 => ?_, fun g hg o ho => ?_⟩
  · rw [List.mem_replicate] at hx
    rw [hx.2]
    rfl
  · obtain ⟨hq, rfl⟩ := rep_get h3
    have hj : j = 0 := by have := (List.getElem?_eq_some_iff.1 h4).1; simp at this; exact this
    subst hj
    simp at h4
    subst h4
    exact ⟨ez, by simp [hq], .val _⟩
  · rw [e1] at hg
    simp only [Value.ownBlock, Option.some.injEq] at hg
    subst hg
    have := h.prl _ _ ho
    omega
theorem aq_prot {x : Exit} {Q : Exit → Go.Act → World → Prop} (r : Nat) {e s k : Nat} {l : List (List D)} (hf : find ob r = some (.vec e s k l)) (h : AQ E x Q sl ((r, .row e s k l) :: ob)) : AQ E x Q sl ob := ⟨fun a w ⟨_, _, _, hg⟩ => h.run a w (hg.protect hf)⟩
set_option maxRecDepth 20000 in
/-- copy(out, l), into all of a slice of one's own -/
theorem st_copyvec {i k e eb : Nat} {ez : Value} {t0 t1 : TypeId} {l : List (List D)} {ds : List D} {A : Array TypeId} (hx : ev sl x = .row i k) (hf : find ob i = some (.vec e 1 k l)) (hy : ToD ob (ev sl y) (.list 1 (ds.map fun z => [z]))) (hA : A = #[t0, t1]) (hT : ti t0 = .sl e 1 eb ez) (hl : ds.length = l.length) (h1 : ∀ z ∈ ds, ∃ v, z = .val v ∧ v.oneCell' = true) (hd : d < E.n) :
    Step E ⟨some d, .call { callee := .builtin .copy, args := #[x, y], argTypes := A }, T, p, af, g⟩ sl ob ((d, .d (.val (.int .i64 ds.length))) :: sl) ((i, .vec e 1 k (ds.map fun z => [z])) :: ob) := by
  subst hA
  rintro a w ⟨Pr, β, κ, h⟩ K Q hK
  obtain ⟨_, j, _, hu, _, hj, _, hsz, _⟩ := ti_sl hT
  have hs1 : (Tryz.prog.info? e).map (·.size) = some 1 := by simp [hj, hsz]
  obtain ⟨hκ, xs, hown, hls, hds, hnp⟩ := h.objs i _ hf
  have hv := good_ev h x
  rw [hx] at hv
  generalize hav : a.eval x = v at hv
  have hvb : v = β i := hv.row_inv hκ.symm
  have hrep := toD_rep h hy (a.eval y) (good_ev h y)
  generalize hay : a.eval y = u at hrep
  generalize hdl : (ds.map fun z => [z]) = dl at hrep
  have hvs : ∃ vs : List Value, vs.length = ds.length ∧ (∀ (q : Nat) (v : Value), vs[q]? = some v → ds[q]? = some (D.val v)) ∧ (∀ v ∈ vs, v.oneCell' = true) := by
    refine ⟨ds.map fun z : D => match z with | D.val v => v | _ => undef, by simp, fun q v hq => ?_, fun v hv => ?_⟩
    · rw [List.getElem?_map, Option.map_eq_some_iff] at hq
      obtain ⟨z, hz, rfl⟩ := hq
      obtain ⟨v, rfl, _⟩ := h1 z (List.mem_of_getElem? hz)
      exact hz
    · obtain ⟨z, hz, rfl⟩ := List.mem_map.1 hv
      obtain ⟨v, rfl, hv1⟩ := h1 z hz
      exact hv1
  obtain ⟨vs, hvl, hvd, hv1⟩ := hvs
  by_cases h0 : ds = []
  · subst h0
    obtain rfl : l = [] := List.eq_nil_of_length_eq_zero hl.symm
    obtain rfl : dl = [] := hdl.symm
    have hrun : (execOp a.eval ⟨some d, .call { callee := .builtin .copy, args := #[x, y], argTypes := #[t0, t1] }, T, p, af, g⟩).run Tryz.prog w = .ok (.value (goInt 0)) w := by
      rcases hown.2 with ⟨hb, _⟩ | ⟨g', cap, cur, hb, hB, hh, hc, hm, hcs, htk⟩
      · rw [hvb, hb] at hav
        cases hrep with
        | nil A' c' _ hc' => simp [execOp, resolve, invoke, builtin, hav, hay, run_copy_none w t0 t1 T e none A' 0 0 0 c' hu hs1 (by simp)]
        | list b o n c' _ _ uu hn _ hc' hm' _ _ =>
          simp at hn
          subst hn
          simp [execOp, resolve, invoke, builtin, hav, hay, run_copy_none w t0 t1 T e none (some ⟨b, o, none⟩) 0 0 0 c' hu hs1 (by simp)]
      · rw [hvb, hb] at hav
        cases hrep with
        | nil A' c' _ hc' => simp [execOp, resolve, invoke, builtin, hav, hay, run_copy_none w t0 t1 T e _ A' 0 cap 0 c' hu hs1 (by simp)]
        | list b o n c' _ _ uu hn _ hc' hm' _ _ =>
          simp at hn
          subst hn
          simp [execOp, resolve, invoke, builtin, hav, hay, run_copy_none w t0 t1 T e _ (some ⟨b, o, none⟩) 0 cap 0 c' hu hs1 (by simp)]
    unfold Oper.wp
    rw [hrun, Oper.upon_value]
    exact hK _ _ ⟨Pr, β, κ, (h.twice hf).put hd (.d _ _ (.val _))⟩
  · have hlp : 0 < l.length := by
      have : 0 < ds.length := List.length_pos_iff.2 h0
      omega
    rcases hown.2 with ⟨_, hb0⟩ | ⟨g', cap, cur, hb, hB, hh, hc, hm, hcs, htk⟩
    · omega
    · rw [hvb, hb] at hav
      cases hrep with
      | nil A' c' _ hc' => exact absurd (List.map_eq_nil_iff.1 hdl) h0
      | list b o n c' _ _ uu hn _ hc' hm' hr' hd' =>
        have hn2 : n = ds.length := by rw [← hn, ← hdl, List.length_map]
        subst hn2
        have hsrc : ∀ q v, vs[q]? = some v → w.cell? ((⟨b, o, none⟩ : Addr).add q) = some v := fun q v hq => by
          have hz := hvd q v hq
          have h2 : dl[q]? = some [.val v] := by rw [← hdl, List.getElem?_map, hz]; rfl
          have h3 := (hr' q 0 _ (.val v) h2 rfl).1
          have h4 := hd' q 0 _ (.val v) h2 rfl
          have h5 : uu q 0 = v := by
            generalize uu q 0 = z at h4
            cases h4
            rfl
          rw [Addr.add_lit, ← h5]
          simpa using h3
        have hcur : cur.size = cap := by rw [hcs, Nat.mul_one]
        have hrun := run_copy_row (P := Tryz.prog) w t0 t1 T e g' 0 l.length cap ⟨b, o, none⟩ ds.length c' cur e vs hu hs1 hh (by rw [hvl, hl]; exact (Nat.min_self _).symm) hsrc (by omega) hv1
        have hrun2 : (execOp a.eval ⟨some d, .call { callee := .builtin .copy, args := #[x, y], argTypes := #[t0, t1] }, T, p, af, g⟩).run Tryz.prog w = .ok (.value (goInt ds.length)) (w.setRow g' (vs ++ cur.toList.drop ds.length).toArray) := by
          have hv3 : vs.length = ds.length := hvl
          simp [execOp, resolve, invoke, builtin, hav, hay, hrun, hv3]
        unfold Oper.wp
        rw [hrun2, Oper.upon_value]
        have hG : Good E sl ((i, .vec e 1 k (ds.map fun z => [z])) :: ob) a (w.setRow g' (vs ++ cur.toList.drop ds.length).toArray) Pr β κ := by
          refine h.setobj2 (T := e) hf (by rw [hb]; rfl) (fun q => hnp g' (by rw [hb]; rfl) q) ⟨_, hh⟩ (fun hkeep => ?_)
          refine ⟨hκ, vs, ⟨by simp [hvl], .inr ⟨g', cap, (vs ++ cur.toList.drop ds.length).toArray, by rw [hb, List.length_map, hl], hB, setRow_heap w g' _ _ _ _ hh, by rw [List.length_map]; omega, hm, by simp [hvl]; omega, ?_⟩⟩, fun x hx => ?_, fun q j x z h3 h4 => ?_, hnp⟩
          · simp only [List.length_map, Nat.mul_one]
            exact List.take_left' hvl
          · obtain ⟨z, _, rfl⟩ := List.mem_map.1 hx
            rfl
          · rw [List.getElem?_map, Option.map_eq_some_iff] at h3
            obtain ⟨z2, hz2, rfl⟩ := h3
            have hj : j = 0 := by have := (List.getElem?_eq_some_iff.1 h4).1; simp at this; exact this
            subst hj
            simp at h4
            subst h4
            have hq : q < vs.length := by rw [hvl]; exact (List.getElem?_eq_some_iff.1 hz2).1
            have hq2 := hvd q _ (List.getElem?_eq_getElem hq)
            rw [hz2] at hq2
            cases hq2
            exact ⟨vs[q], by simp [hq], .val _⟩
        exact hK _ _ ⟨Pr, β, κ, hG.put hd (.d _ _ (.val _))⟩
variable {ops : List Oper} {tail : (World → Prop) → Go.Act → World → Prop} {Q : Exit → Go.Act → World → Prop} {i : Nat} {op : Op} {pl : List (Nat × Bool × Oper)} {sl0 : Slots} {ob0 : Objs}
/-- an operation where it stands; what it says without memory is known later -/
theorem am_nowd {x : V} (hw : Want ops sl true g) (h : Y E ⟨some d, op, ty, p, af, g⟩ sl ob x) (hd : d < E.n) (hK : AM E ops tail Q pl ((d, flatV x) :: sl0) ob0 ((d, x) :: sl) ob) : AM E ops tail Q ((i, false, ⟨some d, op, ty, p, af, g⟩) :: pl) sl0 ob0 sl ob :=
  ⟨fun a w0 w Pr Pr1 β β1 κ κ1 h0 h1 hn => by
    obtain ⟨v, hv, hr⟩ := h a w Pr1 β1 κ1 h1
    refine mix_move (hw.is h1) (fun K hKK => ?_)
    unfold Oper.wp
    rw [hr w (Kept.refl _ _ _ _), Oper.upon_value]
    refine hKK.out _ _ hn.kept fun _ => hK.run _ w0 w Pr Pr1 β β1 κ κ1 (h0.put hd ?_) (h1.put hd hv) hn
    cases x with
    | d z => exact rep_flat hv.d_inv
    | _ => exact .und _⟩
end
end Go.Proofs.YtfgibalcdjlnhaaGreatDoor
end
section
namespace Go.Proofs.YtfgibalcdjlnhaaGreatDoor
open Go.RowKit

section
variable {E : Entry} {sl : Slots} {ob : Objs} {a : Act} {w : World} {Pr : Prot} {β : Nat → Value} {κ : Nat → Nat}
variable {t T ty : TypeId} {p : String} {af : Array Edge} {g : Option (Nat × Bool)} {x : Operand}
theorem nil_nil {w' : World} {pe : TypeId} (ht : Tryz.prog.underlying t = some (.pointer pe)) : (Op.equalIn Op.maxDepth t (.pointer none) (.pointer none)).run Tryz.prog w' = .ok true w' := by
  have : ∀ d : Nat, (Op.equalIn (d + 1) t (.pointer none) (.pointer none)).run Tryz.prog w' = .ok true w' := fun d => by simp [Op.equalIn, run_underlying ht]
  exact this 9999
theorem y_nilnil {dd : Option Nat} {pe : TypeId} (hx : ev sl x = .d (.val (.pointer none))) (ht : Tryz.prog.underlying t = some (.pointer pe)) : Y E ⟨dd, .binOp .eql t x (.const (.pointer none)) ty, T, p, af, g⟩ sl ob (.d (.val (.bool true))) := fun a w Pr β κ h => by
  have hv := good_ev h x
  rw [hx] at hv
  have hav := hv.val_inv
  have hc : a.eval (.const (.pointer none)) = Value.pointer none := rfl
  exact ⟨_, .d _ _ (.val _), fun w' _ => by simp [execOp, hav, hc, eqGuard_at_pointer, binOp, Op.equal, nil_nil ht]⟩
theorem y_nilnot {dd : Option Nat} {pe : TypeId} (hx : ev sl x = .d (.val (.pointer none))) (ht : Tryz.prog.underlying t = some (.pointer pe)) : Y E ⟨dd, .binOp .neq t x (.const (.pointer none)) ty, T, p, af, g⟩ sl ob (.d (.val (.bool false))) := fun a w Pr β κ h => by
  have hv := good_ev h x
  rw [hx] at hv
  have hav := hv.val_inv
  have hc : a.eval (.const (.pointer none)) = Value.pointer none := rfl
  exact ⟨_, .d _ _ (.val _), fun w' _ => by simp [execOp, hav, hc, eqGuard_at_pointer, binOp, Op.equal, nil_nil ht]⟩
/-- what a box's cell shows is read as a datum from now on -/
theorem Good.celltold (h : Good E sl ob a w Pr β κ) {i j : Nat} {T : TypeId} {l : List V} {v : V} {d : D} (hf : find ob i = some (.box T l)) (hj : l[j]? = some v) (hd : ToD ob v d) : Good E sl ((i, .box T (l.set j (.d d))) :: ob) a w Pr β κ := by
  have hcase : ∀ m om, find ((i, .box T (l.set j (.d d))) :: ob) m = some om → (m = i ∧ om = .box T (l.set j (.d d))) ∨ (m ≠ i ∧ find ob m = some om) := by
    intro m om hm
    by_cases hmi : m = i
    · subst hmi
      rw [find_eq] at hm
      cases hm
      exact .inl ⟨rfl, rfl⟩
    · rw [find_ne hmi] at hm
      exact .inr ⟨hmi, hm⟩
  have hkey : ∀ m om, find ((i, .box T (l.set j (.d d))) :: ob) m = some om → ∃ om', find ob m = some om' := by
    intro m om hm
    rcases hcase m om hm with ⟨rfl, _⟩ | ⟨_, h1⟩
    · exact ⟨_, hf⟩
    · exact ⟨_, h1⟩
  refine ⟨h.below, h.st0, h.pr0, h.prn, h.prl, h.size, h.defers, h.slots, fun m om hm => ?_, fun m k om ok g h1 h2 => ?_, fun m om g h1 => ?_, h.keeps, h.fresh⟩
  · rcases hcase m om hm with ⟨rfl, rfl⟩ | ⟨_, h1⟩
    · obtain ⟨g, cs, q1, q2, q3, q4, q5, q6⟩ := h.objs m _ hf
      refine ⟨g, cs, q1, q2, q3, by simp [q4], fun n u x hn hx => ?_, q6⟩
      by_cases hnj : j = n
      · subst hnj
        have hlt := (List.getElem?_eq_some_iff.1 hj).1
        rw [List.getElem?_set_self hlt] at hx
        cases hx
        exact .d _ _ (toD_rep h hd _ (q5 j u _ hn hj))
      · rw [List.getElem?_set_ne hnj] at hx
        exact q5 n u x hn hx
    · exact h.objs m om h1
  · obtain ⟨o1, k1⟩ := hkey m om h1
    obtain ⟨o2, k2⟩ := hkey k ok h2
    exact h.apart m k o1 o2 g k1 k2
  · obtain ⟨o1, k1⟩ := hkey m om h1
    exact h.own m o1 g k1
theorem aq_celltold {z : Exit} {Q : Exit → Act → World → Prop} (i j : Nat) {T : TypeId} {l l' : List V} {v : V} {d : D} (hf : find ob i = some (.box T l)) (hj : l[j]? = some v) (hd : ToD ob v d) (hl : l.set j (.d d) = l') (h : AQ E z Q sl ((i, .box T l') :: ob)) : AQ E z Q sl ob := by
  subst hl
  exact ⟨fun a w ⟨_, _, _, hg⟩ => h.run a w ⟨_, _, _, hg.celltold hf hj hd⟩⟩
end
end Go.Proofs.YtfgibalcdjlnhaaGreatDoor
end
section
namespace Go.Proofs.YtfgibalcdjlnhaaGreatDoor
open Go.RowKit

/-- the values of bytes -/
def bytV (l : List UInt8) : List Value := l.map fun b => .int .u8 (b.toNat : Int)
theorem bytV_len (l : List UInt8) : (bytV l).length = l.length := by simp [bytV]
theorem bytV_app (a b : List UInt8) : bytV (a ++ b) = bytV a ++ bytV b := by simp [bytV]
/-- one value into a row of which no cell is shut -/
theorem run_storeCells_one (P : Program) (w : World) {g n cap : Nat} {t : TypeId} {fz : Nat × Nat} {cur : Array Value} {u : Value} (hg : w.heap[g]? = some (.cells cur t fz)) (hfz : fz = (0, 0) ∨ cap ≤ fz.1) (hn : n < cap) (hc : cur.size = cap) (h1 : u.oneCell' = true) :
    (store ⟨g, n, none⟩ u).run P w = .ok () (w.setRow g (cur.setIfInBounds n u)) := by
  have hi : n < cur.size := by omega
  have hcell : w.cell? ⟨g, n, none⟩ = some cur[n] := by simp [World.cell?, hg, hi]
  have hfro : w.frozen? ⟨g, n, none⟩ = false := by
    obtain ⟨lo, hi'⟩ := fz
    simp only [World.frozen?, hg, Bool.and_eq_false_iff, decide_eq_false_iff_not]
    rcases hfz with h | h
    · cases h
      right
      omega
    · left
      simp only at h
      omega
  rw [run_store P w _ u _ h1, hcell]
  simp [hfro, setCell_eq_setRow w g n cur t fz u hg]
section
variable {E : Entry} {sl : Slots} {ob : Objs} {a : Act} {w : World} {Pr : Prot} {β : Nat → Value} {κ : Nat → Nat}
theorem Good.grownb (h : Good E sl ob a w Pr β κ) {i e k : Nat} {l : List Value} {w' : World} (hf : find ob i = some (.byt e k l)) (hgr : ∀ g, blk (β i) = some g → w.grownBy w' (some g)) : Good E sl (dropK [i] ob) a w' Pr β κ ∧ Stays Pr w w' := by
  obtain ⟨hκ, g0, cap, cur, fz, hb, hB, hh, hfz, hc, hno⟩ := h.objs i _ hf
  have hbb : blk (β i) = some g0 := by rw [hb]; rfl
  have hgr := hgr g0 hbb
  have hs : Stays Pr w w' := fun b o ho => World.cell?_of_block (a := ⟨b, o, none⟩) (hgr.block b (h.prl b o ho) (fun e => by
    cases e
    exact hno o ho))
  have hbel : Under (fun g => some g0 = some g) w w' := ⟨hgr.os, hgr.tape, hgr.output, hgr.size, fun k hk hn => hgr.block k hk (fun e => hn e.symm)⟩
  refine ⟨⟨h.below.then hbel (fun g hg => h.own i _ g hf (by rw [hbb]; exact hg)), fun b o ho => (hs b o (h.pr0 b o ho)).trans (h.st0 b o ho), h.pr0, h.prn, fun b o ho => Nat.lt_of_lt_of_le (h.prl b o ho) hgr.size, h.size, h.defers, fun j => (h.slots j).keep hs (fun _ _ h => h), fun j oj hj => ?_, fun m j om oj g h1 h2 => h.apart m j om oj g (find_dropK h1).2 (find_dropK h2).2, fun m om g h1 => h.own m om g (find_dropK h1).2, h.keeps, h.fresh⟩, hs⟩
  obtain ⟨h1, h2⟩ := find_dropK hj
  have hji : j ≠ i := fun e => h1 (by simp [e])
  exact (h.objs j oj h2).keep2 hs (fun _ _ h => h) (fun _ _ _ h => h) (fun g hg => hgr.block g ((h.objs j oj h2).blkLt g hg).2 (fun e => hji (h.apart j i oj _ g h2 hf hg (by rw [hbb]; exact e.symm))))
/-- a new version of bytes, in the block that they had or in a new one -/
theorem Good.newbyt (h : Good E sl ob a w Pr β κ) {i e k : Nat} {l l' : List Value} {w' : World} {g g' cap' : Nat} {cur' : Array Value} {fz' : Nat × Nat} (hf : find ob i = some (.byt e k l)) (hb : blk (β i) = some g) (hgr : w.grownBy w' (some g)) (hg' : g' = g ∨ w.heap.size ≤ g')
    (hh : w'.heap[g']? = some (.cells cur' e fz')) (hfz : fz' = (0, 0) ∨ cap' ≤ fz'.1) (hc : l'.length ≤ cap' ∧ cap' ≤ maxLen ∧ cur'.size = cap' ∧ cur'.toList.take l'.length = l') :
    Good E sl ((i, .byt e (k + 1) l') :: dropK [i] ob) a w' Pr (updV β i (.slice (some ⟨g', 0, none⟩) l'.length cap')) (updN κ i (k + 1)) := by
  obtain ⟨hκ, g0, cap, cur, fz, hb0, hB, hh0, hfz0, hc0, hno⟩ := h.objs i _ hf
  have e0 : g0 = g := by rw [hb0] at hb; simpa [blk] using hb
  subst e0
  obtain ⟨hG, hs⟩ := h.grownb hf (fun g2 h2 => by rw [hb] at h2; cases h2; exact hgr)
  refine hG.verup hκ ⟨_, _, _, hb0⟩ (fun g2 h2 => ?_) (fun j oj g2 h1 hji h2 h3 => ?_) ⟨updN_same _ _ _, g', cap', cur', fz', updV_same _ _ _, Nat.zero_le _, hh, hfz, hc, fun o ho => ?_⟩
  · simp only [blk, Option.some.injEq] at h2
    subst h2
    rcases hg' with rfl | hg'
    · exact h.own i _ _ hf hb
    · exact .inr (Nat.le_trans h.below.size hg')
  · simp only [blk, Option.some.injEq] at h3
    subst h3
    obtain ⟨_, h4⟩ := find_dropK h1
    rcases hg' with rfl | hg'
    · exact hji (h.apart j i oj _ _ h4 hf h2 hb)
    · have := ((h.objs j oj h4).blkLt _ h2).2
      omega
  · rcases hg' with rfl | hg'
    · exact hno o ho
    · have := h.prl _ _ ho
      omega
end
/-- one byte appended: what append does -/
theorem run_append_byt {w : World} {t ty e : TypeId} {i : TypeInfo} {z : Value} (ht : Tryz.prog.underlying t = some (.slice e)) (hi : Tryz.prog.info? e = some i) (hz : i.zero = some z) (hs1 : i.size = 1) (hby : i.bytes = 1) (hzs : z.cells.size = 1)
    {g cap : Nat} {cur : Array Value} {fz : Nat × Nat} {l : List Value} (hg : w.heap[g]? = some (.cells cur e fz)) (hfz : fz = (0, 0) ∨ cap ≤ fz.1) (hc : l.length ≤ cap ∧ cap ≤ maxLen ∧ cur.size = cap ∧ cur.toList.take l.length = l)
    (a : Addr) (c : Nat) (u : Value) (hu : w.cell? a = some u) (h1 : u.oneCell' = true) (hm : l.length + 1 ≤ 140737488355328) :
    ∃ (g' cap' : Nat) (cur' : Array Value) (fz' : Nat × Nat) (w' : World), (Builtin.append_ #[t, t] ty #[.slice (some ⟨g, 0, none⟩) l.length cap, .slice (some a) 1 c]).run Tryz.prog w = .ok (.slice (some ⟨g', 0, none⟩) (l ++ [u]).length cap') w' ∧ w.grownBy w' (some g) ∧ (g' = g ∨ w.heap.size ≤ g') ∧
      w'.heap[g']? = some (.cells cur' e fz') ∧ (fz' = (0, 0) ∨ cap' ≤ fz'.1) ∧ ((l ++ [u]).length ≤ cap' ∧ cap' ≤ maxLen ∧ cur'.size = cap' ∧ cur'.toList.take (l ++ [u]).length = l ++ [u]) := by
  obtain ⟨c1, c2, c3, c4⟩ := hc
  have hnews : ∀ j v, [u][j]? = some v → w.cell? (a.add j) = some v := by
    intro j v hj
    match j with
    | 0 =>
      cases hj
      rw [show a.add 0 = a by cases a; simp [Addr.add]]
      exact hu
    | j + 1 => simp at hj
  have hlt : (cur.toList.take l.length).length = l.length := by rw [c4]
  by_cases hroom : l.length + 1 ≤ cap
  · refine ⟨g, cap, cur.setIfInBounds l.length u, fz, w.setRow g (cur.setIfInBounds l.length u), ?_, ⟨rfl, rfl, rfl, by simp, fun k _ hk => setRow_other w g k _ (fun e => hk (by rw [e]))⟩, .inl rfl, setRow_heap w g cur _ e _ hg, hfz, by simp; omega, c2, by simp [c3], ?_⟩
    · have hf := run_firstCells_some (P := Tryz.prog) w i.size 1 a 1 c [u] (by simp [hs1]) hnews
      rw [hs1] at hf
      have hst := run_storeCells_one Tryz.prog w (u := u) hg hfz (by omega : l.length < cap) c3 h1
      simp [Builtin.append_, run_underlying ht, sizeOf, typeInfo, hi, Builtin.lenOf, hroom, hf, Addr.add_lit, hs1, storeCells, hst]
    · simp only [Array.toList_setIfInBounds, List.length_append, List.length_singleton]
      apply List.ext_getElem?
      intro j
      rw [List.getElem?_take, List.getElem?_set]
      by_cases hj : j < l.length + 1
      · rw [if_pos hj]
        by_cases hj2 : l.length = j
        · rw [if_pos hj2, if_pos (by simp; omega), ← hj2]
          simp
        · rw [if_neg hj2, List.getElem?_append_left (by omega)]
          conv => rhs; rw [← c4]
          rw [List.getElem?_take, if_pos (by omega)]
      · rw [if_neg hj, List.getElem?_eq_none (by simp; omega)]
  · have holds : ∀ j v, l[j]? = some v → w.cell? ((⟨g, 0, none⟩ : Addr).add j) = some v := by
      intro j v hj
      have hjl := (List.getElem?_eq_some_iff.1 hj).1
      rw [← c4, List.getElem?_take, if_pos hjl] at hj
      rw [Addr.add_lit, Nat.zero_add]
      simp only [World.cell?, hg]
      simpa using hj
    have hsmall : l.length + 1 ≤ 9223372036854775807 := by omega
    have hr := run_append_grow (P := Tryz.prog) w t ty e i z ht hi hz ⟨g, 0, none⟩ l.length cap l (by rw [hs1]; omega) holds a 1 c [u] (by simp [hs1]) hnews (by omega) (by omega) (growslice_fits (by omega) (by rw [hby]; omega))
    have hge := grownCap_ge w (l.length + 1) cap e
    have hcm2 : grownCap w (l.length + 1) cap e ≤ maxLen := grownCap_le_maxLen w (l.length + 1) cap e (by unfold maxLen; omega)
    refine ⟨w.heap.size, grownCap w (l.length + 1) cap e, l.toArray ++ [u].toArray ++ Builtin.zeroCells z.cells (grownCap w (l.length + 1) cap e - (l.length + 1)), (0, 0), w.drew.alloc (.cells (l.toArray ++ [u].toArray ++ Builtin.zeroCells z.cells (grownCap w (l.length + 1) cap e - (l.length + 1))) e), by rw [List.length_append]; exact hr, ⟨rfl, rfl, rfl, by simp, fun k hk _ => heap_alloc_old w.drew _ hk⟩, .inr (Nat.le_refl _), heap_alloc_new w.drew _, .inl rfl, by simpa using hge, hcm2, ?_, ?_⟩
    · simp only [Array.size_append, List.size_toArray, size_zeroCells, hzs]
      simp
      omega
    · simp only [Array.toList_append, List.append_assoc]
      rw [← List.append_assoc]
      exact List.take_left
section
variable {E : Entry} {sl : Slots} {ob : Objs} {d : Nat} {x y : Operand} {t T : TypeId} {p : String} {af : Array Edge}
/-- []byte(s) -/
theorem st_bytes {src dst e : TypeId} {s : ByteArray} {g : Option (Nat × Bool)} (hx : ev sl x = .d (.val (.string s))) (hs : Tryz.prog.underlying src = some .string) (hdst : Tryz.prog.underlying dst = some (.slice e)) (he : Tryz.prog.underlying e = some (.int .u8)) (hlen : s.size ≤ 140737488355328) (hd : d < E.n) (hno : noneOf d sl ob = true) :
    Step E ⟨some d, .convert src dst x, T, p, af, g⟩ sl ob ((d, .row d 0) :: sl) ((d, .byt e 0 (bytV s.data.toList)) :: ob) := by
  rintro a w ⟨Pr, β, κ, h⟩ K Q hK
  have hrun := Go.Lib.run_convert_string_bytes (P := Tryz.prog) w src dst e s hs hdst he
  have hl : (bytV s.data.toList).length = s.size := by rw [bytV_len]; exact (Lib.size_eq s).symm
  have hge := grownCap_ge w s.size 0 e
  have hcm : grownCap w s.size 0 e ≤ maxLen := grownCap_le_maxLen w s.size 0 e (by unfold maxLen; omega)
  unfold Oper.wp
  have hrun2 : (execOp a.eval ⟨some d, .convert src dst x, T, p, af, g⟩).run Tryz.prog w = .ok (.value (.slice (some ⟨w.heap.size, 0, none⟩) s.size (grownCap w s.size 0 e))) (Go.Lib.bytesWorld w e s) := by
    simp only [execOp, good_val h hx, Sem.run_bind, hrun]
    rfl
  rw [hrun2, Oper.upon_value]
  have hx' : Below w.heap.size w (Go.Lib.bytesWorld w e s) := ⟨rfl, rfl, rfl, by rw [Go.Lib.bytesWorld_size]; omega, fun k hk => Go.Lib.bytesWorld_at_old w e s k hk⟩
  refine hK _ _ (h.newobj hd hno (Pr' := Pr) (v := .slice (some ⟨w.heap.size, 0, none⟩) s.size (grownCap w s.size 0 e)) hx' (fun _ _ h => h) (fun _ _ h => .inl h) (fun g hg => by simp [blk] at hg; omega) ?_ (fun β' κ' e1 e2 _ _ => .row d 0 _ ⟨_, _, _, rfl⟩ (Nat.zero_le _) (fun _ => e1.symm)))
  intro β' κ' e1 e2 e3 e4
  have hbs : (Go.Lib.bytesCells w e s).size = grownCap w s.size 0 e := by
    unfold Go.Lib.bytesCells
    simp
    have : s.data.size = s.size := rfl
    omega
  refine ⟨e2, w.heap.size, grownCap w s.size 0 e, Go.Lib.bytesCells w e s, _, by rw [e1, hl], Nat.zero_le _, Go.Lib.bytesWorld_at_new w e s, .inr (by rw [hbs]; exact Nat.le_refl _), ⟨by omega, hcm, hbs, ?_⟩, fun o ho => ?_⟩
  · unfold Go.Lib.bytesCells
    rw [Array.toList_append, List.take_append_of_le_length (by simp [bytV])]
    rw [List.take_of_length_le (by simp [bytV])]
    simp [bytV]
  · have := h.prl _ _ ho
    omega
theorem byt_val {a : Act} {w : World} {Pr : Prot} {β : Nat → Value} {κ : Nat → Nat} (h : Good E sl ob a w Pr β κ) {i k e : Nat} {l : List Value} (hx : ev sl x = .row i k) (hf : find ob i = some (.byt e k l)) : a.eval x = β i := by
  have := good_ev h x
  rw [hx] at this
  exact this.row_inv (h.objs i _ hf).1.symm
theorem y_bytlen {i k e n : Nat} {l : List Value} {t0 dd : TypeId} {A : Array TypeId} {g : Option (Nat × Bool)} (hx : ev sl x = .row i k) (hf : find ob i = some (.byt e k l)) (hA : A = #[t0]) (hT : ∃ e es eb ez, ti t0 = .sl e es eb ez) (hn : l.length = n) :
    Y E ⟨some dd, .call { callee := .builtin .len, args := #[x], argTypes := A }, T, p, af, g⟩ sl ob (.d (.val (.int .i64 n))) := fun a w Pr β κ h => by
  subst hA hn
  obtain ⟨e, es, eb, ez, hT⟩ := hT
  obtain ⟨_, _, _, hu, _⟩ := ti_sl hT
  have hxv := byt_val h hx hf
  obtain ⟨_, g', cap, cur, fz, hb, _⟩ := h.objs i _ hf
  exact ⟨_, .d _ _ (.val _), fun w' _ => by simp [execOp, hxv, hb, resolve, invoke, builtin, Builtin.len_, run_underlying hu, goInt]⟩
/-- append(b, u) -/
theorem st_bytapp {i k e : Nat} {ez : Value} {l : List Value} {u : Value} {A : Array TypeId} {g : Option (Nat × Bool)} (hx : ev sl x = .row i k) (hf : find ob i = some (.byt e k l)) (hy : ToD ob (ev sl y) (.list 1 [[.val u]])) (hA : A = #[t, t]) (hT : ti t = .sl e 1 1 ez)
    (h1 : u.oneCell' = true) (hm : l.length + 1 ≤ 140737488355328) (hd : d < E.n) :
    Step E ⟨some d, .call { callee := .builtin .append, args := #[x, y], argTypes := A }, T, p, af, g⟩ sl ob ((d, .row i (k + 1)) :: sl) ((i, .byt e (k + 1) (l ++ [u])) :: dropK [i] ob) := by
  subst hA
  rintro a w ⟨Pr, β, κ, h⟩ K Q hK
  obtain ⟨_, j, _, hu, _, hj, hz, hs, hby, hsz⟩ := ti_sl hT
  have hxv := byt_val h hx hf
  obtain ⟨hκ, gb, cap, cur, fz, hb, hB, hh, hfz, hc, hno⟩ := h.objs i _ hf
  have hrep := toD_rep h hy _ (good_ev h y)
  generalize hav : a.eval y = v at hrep
  cases hrep with
  | list b o n c _ _ q hn hss hcc hmm hr hdd =>
    have hn1 : n = 1 := by simpa using hn.symm
    subst hn1
    obtain ⟨r1, _⟩ := hr 0 0 _ _ rfl rfl
    have r2 := hdd 0 0 _ _ rfl rfl
    generalize q 0 0 = v0 at r1 r2
    cases r2
    obtain ⟨g', cap', cur', fz', w', hrun, hgr, hg', hh', hfz', hc'⟩ := run_append_byt (ty := T) (w := w) hu hj hz hs hby (by simpa using hsz) hh hfz hc ⟨b, o, none⟩ c u (by simpa using r1) h1 hm
    have hG := h.newbyt (l' := l ++ [u]) hf (by rw [hb]; rfl) hgr hg' hh' hfz' hc'
    unfold Oper.wp
    have hrun2 : (execOp a.eval ⟨some d, .call { callee := .builtin .append, args := #[x, y], argTypes := #[t, t] }, T, p, af, g⟩).run Tryz.prog w = .ok (.value (.slice (some ⟨g', 0, none⟩) (l ++ [u]).length cap')) w' := by
      simp only [execOp, resolve, invoke, builtin, Sem.run_bind, Sem.run_pure, Result.andThen_ok, List.map_toArray, List.map_cons, List.map_nil, hxv, hb, hav, hrun]
    rw [hrun2, Oper.upon_value]
    exact hK _ _ ⟨_, _, _, hG.put hd (.row i (k + 1) _ ⟨_, _, _, rfl⟩ (by rw [updN_same]; exact Nat.le_refl _) (fun _ => (updV_same _ _ _).symm))⟩
set_option maxRecDepth 20000 in
/-- string(b) -/
theorem st_bytstr {i k e eb : Nat} {ez : Value} {L : List UInt8} {src dst : TypeId} {r : ByteArray} {g : Option (Nat × Bool)} (hx : ev sl x = .row i k) (hf : find ob i = some (.byt e k (bytV L))) (hT : ti src = .sl e 1 eb ez) (he : Tryz.prog.underlying e = some (.int .u8)) (hdst : Tryz.prog.underlying dst = some .string) (hr : ⟨L.toArray⟩ = r) (hd : d < E.n) :
    Step E ⟨some d, .convert src dst x, T, p, af, g⟩ sl ob ((d, .d (.val (.string r))) :: sl) ob := by
  subst hr
  rintro a w ⟨Pr, β, κ, h⟩ K Q hK
  obtain ⟨_, j, _, hu, _⟩ := ti_sl hT
  have hxv := byt_val h hx hf
  obtain ⟨hκ, gb, cap, cur, fz, hb, hB, hh, hfz, ⟨c1, c2, c3, c4⟩, hno⟩ := h.objs i _ hf
  have hrun := run_convert_bytes_back (P := Tryz.prog) w src dst e ⟨gb, 0, none⟩ cap L hu he hdst (fun j hj => by
    rw [Addr.add_lit, Nat.zero_add]
    have e1 : (bytV L)[j]? = some (.int .u8 (L[j].toNat : Int)) := by simp [bytV, hj]
    rw [← c4, List.getElem?_take, if_pos (by rw [bytV_len]; exact hj)] at e1
    simp only [World.cell?, hh]
    simpa using e1)
  unfold Oper.wp
  have hrun2 : (execOp a.eval ⟨some d, .convert src dst x, T, p, af, g⟩).run Tryz.prog w = .ok (.value (.string ⟨L.toArray⟩)) w := by
    rw [bytV_len] at hb
    simp only [execOp, hxv, hb, Sem.run_bind, hrun]
    rfl
  rw [hrun2, Oper.upon_value]
  exact hK _ _ ⟨_, _, _, h.put hd (.d _ _ (.val _))⟩
/-- the bytes have turned, in their block -/
theorem Good.putbyt {a : Act} {w w' : World} {Pr : Prot} {β : Nat → Value} {κ : Nat → Nat} (h : Good E sl ob a w Pr β κ) {i e k gb cap : Nat} {l l' : List Value} {cur' : Array Value} {fz : Nat × Nat} (hf : find ob i = some (.byt e k l)) (hb : β i = .slice (some ⟨gb, 0, none⟩) l.length cap) (hgr : w.grownBy w' (some gb)) (hh : w'.heap[gb]? = some (.cells cur' e fz)) (hfz : fz = (0, 0) ∨ cap ≤ fz.1) (hl : l'.length = l.length) (hc : l'.length ≤ cap ∧ cap ≤ maxLen ∧ cur'.size = cap ∧ cur'.toList.take l'.length = l') :
    Good E sl ((i, .byt e k l') :: dropK [i] ob) a w' Pr β κ := by
  obtain ⟨hκ, g0, cap0, cur, fz0, hb0, hB, hh0, hfz0, hc0, hno⟩ := h.objs i _ hf
  have e0 : g0 = gb := by rw [hb0] at hb; simp at hb; exact hb.1
  subst e0
  obtain ⟨hG, hs⟩ := h.grownb hf (fun g2 h2 => by rw [hb] at h2; simp only [blk, Option.some.injEq] at h2; subst h2; exact hgr)
  have old : ∀ m om, find ((i, O.byt e k l') :: dropK [i] ob) m = some om → ∃ om', find ob m = some om' := fun m om hm => by
    rcases keyCase hm with ⟨rfl, _⟩ | ⟨_, hm⟩
    · exact ⟨_, hf⟩
    · exact ⟨_, (find_dropK hm).2⟩
  refine ⟨hG.below, hG.st0, hG.pr0, hG.prn, hG.prl, hG.size, hG.defers, hG.slots, fun m om hm => ?_, fun m j om oj g h1 h2 h3 h4 => ?_, fun m om g h1 h2 => ?_, hG.keeps, hG.fresh⟩
  · rcases keyCase hm with ⟨rfl, rfl⟩ | ⟨_, hm⟩
    · exact ⟨hκ, g0, cap, cur', fz, by rw [hl]; exact hb, Nat.zero_le _, hh, hfz, hc, hno⟩
    · exact hG.objs m om hm
  · obtain ⟨_, k1⟩ := old m om h1
    obtain ⟨_, k2⟩ := old j oj h2
    exact h.apart m j _ _ g k1 k2 h3 h4
  · obtain ⟨_, k1⟩ := old m om h1
    exact h.own m _ g k1 h2
/-- b[q] = u: the address, then the store -/
theorem al_bytput {ops : Array Oper} {rest : List Oper} {Q : Exit → Act → World → Prop} {i k e q d1 eb : Nat} {ez : Value} {kk : IntKind} {m : Int} {l : List Value} {u : Value} {T1 T2 t2 : TypeId} {p1 p2 : String} {af1 af2 : Array Edge} {z : Operand} (hx : ev sl x = .row i k) (hf : find ob i = some (.byt e k l)) (hy : ev sl y = .d (.val (.int kk m))) (hz : ev ((d1, .und) :: sl) z = .d (.val u)) (hT : ti t = .sl e 1 eb ez) (hi : m = (q : Int)) (hq : q < l.length) (h1 : u.oneCell' = true) (ht2 : isOne (ti t2) = true) (hd : d1 < E.n)
    (hK : AL E ops rest Q ((d1, .und) :: sl) ((i, .byt e k (l.set q u)) :: dropK [i] ob)) :
    AL E ops (⟨some d1, .indexAddr t x y, T1, p1, af1, none⟩ :: ⟨none, .store t2 (.tmp d1) z, T2, p2, af2, none⟩ :: rest) Q sl ob := by
  subst hi
  refine ⟨fun a w ⟨Pr, β, κ, h⟩ => wpList_plain rfl fun K hKK => ?_⟩
  obtain ⟨_, j, _, hu, _, hj, _, hs, _⟩ := ti_sl hT
  have hxv := byt_val h hx hf
  obtain ⟨hκ, gb, cap, cur, fz, hb, hB, hh, hfz, ⟨c1, c2, c3, c4⟩, hno⟩ := h.objs i _ hf
  have hrun1 : (execOp a.eval ⟨some d1, .indexAddr t x y, T1, p1, af1, none⟩).run Tryz.prog w = .ok (.value (.pointer (some ⟨gb, q, none⟩))) w := by
    have hsz : (sizeOf e).run Tryz.prog w = .ok 1 w := by simp [sizeOf, typeInfo, hj, hs]
    simp [execOp, hxv, hb, good_val h hy, Instr.indexAt, asIntOf, run_underlying hu, hsz, hq, Addr.add_lit]
  unfold Oper.wp
  rw [hrun1, Oper.upon_value]
  refine hKK _ _ (wpList_plain rfl fun K2 hKK2 => ?_)
  have h2 := h.put hd (v := .pointer (some ⟨gb, q, none⟩)) (.und _)
  have hst := run_storeCells_one Tryz.prog w (u := u) hh hfz (by omega : q < cap) c3 h1
  have hzv := good_val h2 hz
  have hcl : u.cells = #[u] := by cases u <;> first | rfl | cases h1
  have hadr : (a.put (some d1) (.pointer (some ⟨gb, q, none⟩))).eval (.tmp d1) = .pointer (some ⟨gb, q, none⟩) := by
    show (a.put (some d1) (.pointer (some ⟨gb, q, none⟩))).tmps.getD d1 undef = _
    rw [Act.getD_put a d1 d1 _ (by rw [h.size]; exact hd), if_pos rfl]
  have hrun2 : (execOp (a.put (some d1) (.pointer (some ⟨gb, q, none⟩))).eval ⟨none, .store t2 (.tmp d1) z, T2, p2, af2, none⟩).run Tryz.prog w = .ok .skip (w.setRow gb (cur.setIfInBounds q u)) := by
    have hsz := run_sizeOf_one w ht2
    simp [execOp, hadr, hzv, Instr.storeAt, Instr.sureAddr, storeVar, hsz, hcl, storeCells, Addr.add_lit, hst]
  unfold Oper.wp
  rw [hrun2, Oper.upon_skip]
  refine hKK2 _ _ (hK.run _ _ ⟨Pr, β, κ, h2.putbyt (cur' := cur.setIfInBounds q u) hf hb ⟨rfl, rfl, rfl, by simp, fun k _ hk => setRow_other w gb k _ (fun e => hk (by rw [e]))⟩ (setRow_heap w gb cur _ e _ hh) hfz (by simp) ⟨by simpa using c1, c2, by simp [c3], ?_⟩⟩)
  simp only [Array.toList_setIfInBounds, List.length_set]
  rw [List.take_set, c4]
end
end Go.Proofs.YtfgibalcdjlnhaaGreatDoor
end
section
namespace Go.Proofs.YtfgibalcdjlnhaaGreatDoor
open Go.ChangeShapes Go.WideShapes Go.ChangeAt Go.RowKit Go.Deep Go.Joins

theorem own : ownKnob Tryz.prog.godebug = none := by kernel_rfl
theorem laidOut : laidOutB Tryz.prog = true := by kernel_rfl

section
variable {H : Type} {enc : TypeId × Value → H} {P : Program}
theorem trodAll_below (hl : laidOutB P = true) {W W' : World} (hb : Below W.heap.size W W') : ∀ {ts : List TypeId} {vs : List Value} {ds : List (DataW H)} {ps : List MemPlace},
    (ts.all fun t => P.readableRec t && decide (t < P.types.size)) = true → DataW.TrodAll enc P W 0 (fun _ => true) true ts vs ds ps → (∀ x ∈ ps, x.block < W.heap.size) →
    DataW.TrodAll enc P W' 0 (fun b => decide (b < W.heap.size)) true ts vs ds ps
  | [], vs, ds, ps, _, h, _ => by
    obtain ⟨rfl, rfl, rfl⟩ := trodAll_nil h
    exact trodAll_mk0
  | t :: ts, vs, ds, ps, hk, h, hlt => by
    obtain ⟨v, vs', d, ds', p, p', rfl, rfl, rfl, h0, hr⟩ := trodAll_cons h
    simp only [List.all_cons, Bool.and_eq_true, decide_eq_true_eq] at hk
    exact trodAll_cons_mk (Below.trod hl hk.1.1 hk.1.2 h0 hb (fun x hx => hlt x (List.mem_append_left _ hx))) (trodAll_below hl hb hk.2 hr (fun x hx => hlt x (List.mem_append_right _ hx)))

/-- A law's post: true; the arguments read as they did. -/
theorem law_post {f : Func} {s : ChangeSpec} {W W' : World} {args : Array Value} {ds gs : List (DataW H)} {before : List MemPlace} {tb : TypeId}
    (hl : laidOutB P = true) (hbool : P.underlying tb = some .bool) (hres : f.resultTypes = #[tb]) (hpar : (f.params.toList.all fun t => P.readableRec t && decide (t < P.types.size)) = true)
    (hvars : s.vars = []) (hW : DataW.Whole enc P f.params.toList s.vars false W args.toList ds gs before)
    (hfn : s.fn H (ds ++ gs) = { results := [.lit (.bool true)], args := ds }) (hb : Below W.heap.size W W') :
    s.post enc P f false true false false W args (.bool true) W' := by
  have hW' := hW
  obtain ⟨p, q, hA, hV, rfl, _, _⟩ := hW
  rw [hvars] at hV
  obtain ⟨rfl, rfl⟩ := trodVars_none hV
  have hA' : DataW.TrodAll enc P W 0 (fun _ => true) true f.params.toList args.toList ds p := hA
  refine ⟨ds, [], p ++ [], [], p, [], hW', ?_, ?_, ?_, hb.frame _, fun h => by cases h⟩
  · rw [hfn, hres]
    exact trodAll_cons_mk (shut_bool hbool true) trodAll_mk0
  · rw [hfn]
    exact trodAll_below hl hb hpar hA' hA'.lt
  · rw [hfn, hvars]
    rfl

end
end Go.Proofs.YtfgibalcdjlnhaaGreatDoor
end
section
namespace Go.Proofs.YtfgibalcdjlnhaaGreatDoor
open Go.ChangeShapes Go.WideShapes Go.ChangeAt Go.RowKit Go.Deep Go.Joins

theorem reps_nil {w : World} {Pr : Prot} : ∀ (i : Nat) (v : Value) (d : D), ([] : List Value)[i]? = some v → ([] : List D)[i]? = some d → RepD w Pr v d := by simp
theorem reps_cons {w : World} {Pr : Prot} {v : Value} {d : D} {vs : List Value} {ds : List D} (h : RepD w Pr v d) (hr : ∀ (i : Nat) (v : Value) (d : D), vs[i]? = some v → ds[i]? = some d → RepD w Pr v d) :
    ∀ (i : Nat) (u : Value) (e : D), (v :: vs)[i]? = some u → (d :: ds)[i]? = some e → RepD w Pr u e
  | 0, _, _, h1, h2 => by cases h1; cases h2; exact h
  | i + 1, u, e, h1, h2 => hr i u e h1 h2
section
variable {H : Type} {enc : TypeId × Value → H}
end
end Go.Proofs.YtfgibalcdjlnhaaGreatDoor
end
section
namespace Go.Proofs.YtfgibalcdjlnhaaGreatDoor
open Go.ChangeShapes Go.WideShapes Go.ChangeAt Go.RowKit Go.Deep Go.Joins

section
variable {H : Type} {enc : TypeId × Value → H} {P : Program} {w : World} {base : Nat}
/-- Cells that read at type t show some a, by f. -/
def Show (enc : TypeId × Value → H) (P : Program) (w : World) (base : Nat) (t : TypeId) (c : Nat) {α : Type} (f : α → List D) (Q : α → Prop) : Prop :=
  ∀ (fuel : Nat) (cs : List Value) (x : DataW H × List MemPlace), DataW.trod enc P w base (fun _ => true) true fuel t cs = some x →
    cs.length = c ∧ ∃ a, Q a ∧ (f a).length = c ∧ ∀ (j : Nat) (v : Value) (d : D), cs[j]? = some v → (f a)[j]? = some d → RepD w (fun b _ => b < w.heap.size) v d
theorem show_one {α : Type} {t : TypeId} {g : α → D} {Q : α → Prop} (h : ∀ (fuel : Nat) (cs : List Value) (x : DataW H × List MemPlace), DataW.trod enc P w base (fun _ => true) true fuel t cs = some x → ∃ v a, cs = [v] ∧ Q a ∧ RepD w (fun b _ => b < w.heap.size) v (g a)) :
    Show enc P w base t 1 (fun a => [g a]) Q := by
  intro fuel cs x hx
  obtain ⟨v, a, rfl, ha, hr⟩ := h fuel cs x hx
  refine ⟨rfl, a, ha, rfl, fun j u d h1 h2 => ?_⟩
  cases j with
  | zero => cases h1; cases h2; exact hr
  | succ j => cases h1
theorem show_int {t : TypeId} {k : IntKind} (ht : P.underlying t = some (.int k)) : Show enc P w base t 1 (fun n : Int => [.val (.int k n)]) (fun n => k.min ≤ n ∧ n ≤ k.max) :=
  show_one (g := fun n : Int => .val (.int k n)) fun fuel cs x hx => by
    obtain ⟨n, rfl, _, hw⟩ := DataW.trod_int ht hx
    exact ⟨_, n, rfl, by simpa [Lit.wf] using hw, .val _⟩
theorem show_string {t : TypeId} (ht : P.underlying t = some .string) : Show enc P w base t 1 (fun s : ByteArray => [.str s]) (fun s => s.size ≤ maxLen) :=
  show_one (g := fun s : ByteArray => .str s) fun fuel cs x hx => by
    obtain ⟨s, rfl, _, hw⟩ := DataW.trod_string ht hx
    exact ⟨_, s, rfl, hw, .val _⟩
/-- A list of what its elements show. -/
theorem show_list {α : Type} {t e : TypeId} {es : Nat} {f : α → List D} {Q : α → Prop} (ht : P.underlying t = some (.slice e)) (hc : P.cellsOf e = es) (hpos : 0 < es) (he : Show enc P w base e es f Q) :
    Show enc P w base t 1 (fun l : List α => [.list es (l.map f)]) (fun l => l.length ≤ maxLen ∧ ∀ x ∈ l, Q x) :=
  show_one (g := fun l : List α => .list es (l.map f)) fun fuel cs x hx => by
    rcases open_slice ht hx with ⟨rfl, _⟩ | ⟨a, len, cap, m, k, Dt, Pl, rfl, hb, hl, hm, hmm, _, hf⟩
    · exact ⟨_, [], rfl, ⟨Nat.zero_le _, by simp⟩, .nil _ _ _ (Nat.zero_le _)⟩
    · refine ⟨.slice (some a) len cap, ?_⟩
      simp only [if_true] at hmm
      subst hmm
      rw [hc] at hf
      rcases Nat.eq_zero_or_pos len with h0 | h0
      · subst h0
        exact ⟨[], rfl, ⟨Nat.zero_le _, by simp⟩, .nil _ _ _ hm⟩
      have h1 : ∀ i, i < len → ∃ y : α × List Value, Q y.1 ∧ w.cells? base (a.add (i * es)) es = some y.2 ∧ y.2.length = es ∧ (f y.1).length = es ∧ ∀ (j : Nat) (v : Value) (d : D), y.2[j]? = some v → (f y.1)[j]? = some d → RepD w (fun b _ => b < w.heap.size) v d := by
        intro i hi
        obtain ⟨cs, hcell, htr⟩ := hf i (by omega)
        obtain ⟨h2, y, h3, h4, h5⟩ := he _ _ _ htr
        exact ⟨(y, cs), h3, hcell, h2, h4, h5⟩
      haveI : Inhabited (α × List Value) := ⟨Classical.choose (h1 0 h0)⟩
      obtain ⟨g, hg⟩ := choose_lt h1
      obtain ⟨b, o, spot⟩ := a
      have hspot : spot = none := by
        obtain ⟨_, h2, h3, _, _⟩ := hg 0 h0
        have h4 := (World.cells?_some h2).2.2 0 hpos
        rw [List.getElem?_eq_getElem (by omega)] at h4
        simpa [Addr.add] using World.cell?_spot h4
      subst hspot
      have hblk : b < w.heap.size := by
        obtain ⟨_, h2, _⟩ := hg 0 h0
        have := World.cells?_block h2 hpos
        simpa [Addr.add] using this
      refine ⟨(List.range len).map fun i => (g i).1, rfl, ⟨?_, fun x hx => ?_⟩, ?_⟩
      · simp only [List.length_map, List.length_range]
        omega
      · obtain ⟨j, hj, rfl⟩ := List.mem_map.1 hx
        exact (hg j (List.mem_range.1 hj)).1
      have hval : ∀ (i j : Nat) (e : List D) (d : D), (((List.range len).map fun i => (g i).1).map f)[i]? = some e → e[j]? = some d → i < len ∧ j < es ∧ e = f (g i).1 ∧ ∃ v, (g i).2[j]? = some v := by
        intro i j e d h2 h3
        rw [List.getElem?_map, List.getElem?_map, Option.map_eq_some_iff] at h2
        obtain ⟨x, h4, rfl⟩ := h2
        rw [Option.map_eq_some_iff] at h4
        obtain ⟨k, h5, rfl⟩ := h4
        have hi : i < len := by have := (List.getElem?_eq_some_iff.1 h5).1; simpa using this
        have hk : k = i := by simpa [hi] using h5.symm
        subst hk
        obtain ⟨_, _, h6, h7, _⟩ := hg k hi
        have hj : j < es := by have := (List.getElem?_eq_some_iff.1 h3).1; omega
        exact ⟨hi, hj, rfl, _, List.getElem?_eq_getElem (by omega)⟩
      refine .list b o len m es _ (fun i j => ((g i).2[j]?).getD undef) (by simp) (fun e he => ?_) hl hm (fun i j e d h2 h3 => ?_) (fun i j e d h2 h3 => ?_)
      · obtain ⟨x, hx, rfl⟩ := List.mem_map.1 he
        obtain ⟨j, hj, rfl⟩ := List.mem_map.1 hx
        exact (hg j (List.mem_range.1 hj)).2.2.2.1
      · obtain ⟨hi, hj, rfl, v, hv⟩ := hval i j e d h2 h3
        refine ⟨?_, hblk⟩
        obtain ⟨_, h4, _⟩ := hg i hi
        have h5 := (World.cells?_some h4).2.2 j hj
        rw [hv, add_plain, add_plain] at h5
        rw [hv]
        exact h5
      · obtain ⟨hi, hj, rfl, v, hv⟩ := hval i j e d h2 h3
        rw [hv]
        exact (hg i hi).2.2.2.2 j v d hv h3
/-- Fields from an offset on. -/
def ShowFs (enc : TypeId × Value → H) (P : Program) (w : World) (base : Nat) (o : Nat) (fs : List Field) (c : Nat) {α : Type} (f : α → List D) (Q : α → Prop) : Prop :=
  ∀ (n : Nat) (cs : List Value), (∀ (i : Nat) (fl : Field), fs[i]? = some fl → ∃ y, DataW.trod enc P w base (fun _ => true) true n fl.type ((cs.drop fl.offset).take (P.cellsOf fl.type)) = some y) →
    ∃ a, Q a ∧ (f a).length = c ∧ ∀ (j : Nat) (v : Value) (d : D), cs[o + j]? = some v → (f a)[j]? = some d → RepD w (fun b _ => b < w.heap.size) v d
theorem shows_nil {o : Nat} : ShowFs enc P w base o [] 0 (fun _ : Unit => []) (fun _ => True) := fun _ _ _ => ⟨(), trivial, rfl, fun j v d _ h => by cases h⟩
theorem shows_cons {α β : Type} {fl : Field} {o c c' : Nat} {fs : List Field} {f : α → List D} {Q : α → Prop} {g : β → List D} {R : β → Prop} (h : Show enc P w base fl.type c f Q) (ho : fl.offset = o) (hc : P.cellsOf fl.type = c)
    (hr : ShowFs enc P w base (o + c) fs c' g R) : ShowFs enc P w base o (fl :: fs) (c + c') (fun x : α × β => f x.1 ++ g x.2) (fun x => Q x.1 ∧ R x.2) := by
  intro n cs hcs
  obtain ⟨y, hy⟩ := hcs 0 fl rfl
  obtain ⟨_, a, h1, h2, h3⟩ := h _ _ _ hy
  obtain ⟨b, h4, h5, h6⟩ := hr n cs fun i f hf => hcs (i + 1) f hf
  refine ⟨(a, b), ⟨h1, h4⟩, by simp [h2, h5], fun j v d hv hd => ?_⟩
  have hd : (f a ++ g b)[j]? = some d := hd
  by_cases hj : j < c
  · rw [List.getElem?_append_left (by omega)] at hd
    refine h3 j v d ?_ hd
    rw [ho, hc, List.getElem?_take, if_pos hj, List.getElem?_drop]
    exact hv
  · rw [List.getElem?_append_right (by omega), h2] at hd
    refine h6 (j - c) v d ?_ hd
    rw [show o + c + (j - c) = o + j by omega]
    exact hv
theorem show_struct {α : Type} {t : TypeId} {fs : Array Field} {c : Nat} {f : α → List D} {Q : α → Prop} (ht : P.underlying t = some (.struct fs)) (hc : P.cellsOf t = c) (h : ShowFs enc P w base 0 fs.toList c f Q) : Show enc P w base t c f Q := by
  intro fuel cs x hx
  obtain ⟨xs, n, _, _, hl, hlen, hf⟩ := DataW.trod_struct ht hx
  obtain ⟨a, h1, h2, h3⟩ := h n cs fun i fl hfl => by
    have hfl' : fs[i]? = some fl := by simpa using hfl
    have hi : i < fs.size := (Array.getElem?_eq_some_iff.1 hfl').1
    exact ⟨_, (hf i fl hfl').trans (List.getElem?_eq_getElem (by omega))⟩
  exact ⟨hl.trans hc, a, h1, h2, fun j v d hv hd => h3 j v d (by simpa using hv) hd⟩
theorem Show.as {α β : Type} {t : TypeId} {c : Nat} {f : α → List D} {Q : α → Prop} (h : Show enc P w base t c f Q) (g : β → List D) (R : β → Prop) (m : α → β) (hg : ∀ a, g (m a) = f a) (hR : ∀ a, Q a → R (m a)) : Show enc P w base t c g R := by
  intro fuel cs x hx
  obtain ⟨h1, a, h2, h3, h4⟩ := h fuel cs x hx
  exact ⟨h1, m a, hR a h2, by rw [hg]; exact h3, by rw [hg]; exact h4⟩
/-- A value that came in, of one cell. -/
theorem open_one {α : Type} {t : TypeId} {g : α → D} {Q : α → Prop} {v : Value} {d : DataW H} {ps : List MemPlace} (h : Show enc P w base t 1 (fun a => [g a]) Q) (hv : v.cells = #[v]) (hd : DataW.Trod enc P w base (fun _ => true) true t v d ps) :
    ∃ a, Q a ∧ RepD w (fun b _ => b < w.heap.size) v (g a) := by
  obtain ⟨fuel, hf⟩ := hd
  rw [hv] at hf
  obtain ⟨_, a, h1, _, h2⟩ := h _ _ _ hf
  exact ⟨a, h1, h2 0 v (g a) rfl rfl⟩
end
end Go.Proofs.YtfgibalcdjlnhaaGreatDoor
end
