/-
  A slice that is made, filled by copy from a list, and handed out; over abstract states. Conditions: elements of one cell.
  Bytes of a string that are changed: []byte(s), append, a byte put, back to a string. Conditions: none.
  Bytes of one's own that change no more, as a list; a vec that changes no more; over abstract states. Conditions: none.
  Pointers that are nil, and rows that are read as lists from now on; over abstract states. Conditions: none.
  From a walk of a law to what its row asks: it returns true, and each argument reads as it did. Conditions: only memory of the call's own has turned.
  From data that came in to what the abstract walks read. Conditions: none.
  What cells of a type show, type by type. Conditions: none.
  What functions of the library return: laid by the kit's own command. Conditions: those of each theorem.
  What the library's functions do, as pure calls; numbers as text. Conditions: none.
-/
import Derived.Laws.CopyRow
import Derived.Laws.IdiomCopy
import Derived.Lib.ConvBytes
import Derived.Laws.IdiomStrings
import Derived.Test.YtfgibalcdjlnhaaDoorRows
import Derived.ProofKit
import Derived.OpenShut
import Derived.ChangeOld
import Derived.SizedLaws
import Derived.Deep.SlicePairs
import Derived.Lib.SmallJoins
import Derived.Deep.Slices
import Derived.Shelf.Small.Strs
import Derived.Shelf.Small.Wraps
import Derived.Shelf.Strconv.Itoa3
import Derived.Shelf.Strconv.AtoiAll
import Derived.Test.YtfgibalcdjlnhaaDoorProg
import Derived.Lib.AppendIntMem
import Derived.Test.YtfgibalcdjlnhaaDoorMak
section
namespace Go.Proofs.YtfgibalcdjlnhaaDoor
open Go.RowKit

section
variable {E : Entry} {sl : Slots} {ob : Objs} {a : Go.Act} {w : World} {Pr : Prot} {β : Nat → Value} {κ : Nat → Nat}
variable {d : Nat} {dd : Option Nat} {t T ty : TypeId} {p : String} {af : Array Edge} {g : Option (Nat × Bool)} {x y c : Operand} {m m' : Int}
theorem Good.setobj2 (h : Good E sl ob a w Pr β κ) {i b : Nat} {o o' : O} (hf : find ob i = some o) (hb : blk (β i) = some b) {cs : Array Value} {T : TypeId} (hno : ∀ q, ¬ Pr b q) (hold : ∃ c0, w.heap[b]? = some (.cells c0 T (0, 0)))
    (ho : (∀ (v : Value) (x : V), RepV w Pr β κ v x → RepV (w.setRow b cs) Pr β κ v x) → RepO (w.setRow b cs) Pr 0 β κ i o') : Good E sl ((i, o') :: ob) a (w.setRow b cs) Pr β κ := by
  obtain ⟨c0, hold⟩ := hold
  have hs : Stays Pr w (w.setRow b cs) := fun b' q hq => World.cell?_of_block (a := ⟨b', q, none⟩) (setRow_other w b b' cs (by rintro rfl; exact hno q hq))
  have hE := h.below.size
  have hbo := h.own i o b hf hb
  have hx : Under (fun g => g = b) w (w.setRow b cs) := ⟨rfl, rfl, rfl, by simp [World.setRow], fun k _ hn => setRow_other w b k cs hn⟩
  refine ⟨h.below.then hx (fun g hg => hg ▸ hbo), fun b' q hq => (hs b' q (h.pr0 b' q hq)).trans (h.st0 b' q hq), h.pr0, h.prn, fun b' q hq => by have := h.prl b' q hq; simpa [World.setRow] using this, h.size, h.defers, fun j => (h.slots j).keep hs (fun _ _ h => h), fun j oj hj => ?_, fun j k oj ok g hj hk => ?_, fun j oj g hj hg => ?_, h.keeps, h.fresh⟩
  rotate_right 1
  · by_cases hji : j = i
    · subst hji
      exact h.own j o g hf hg
    · exact h.own j oj g (find_other hji hj) hg
  · by_cases hji : j = i
    · subst hji
      rw [find_eq] at hj
      cases hj
      exact ho (fun v x hv => hv.keep hs (fun _ _ h => h))
    · have hj' := find_other hji hj
      refine (h.objs j oj hj').keep hs (fun _ _ h => h) (fun _ _ h => .inl h) (fun g hg => setRow_other w b g cs ?_)
      rintro rfl
      exact hji (h.apart j i oj o _ hj' hf hg hb)
  · have key : ∀ m om, find ((i, o') :: ob) m = some om → ∃ om', find ob m = some om' := by
      intro m om hm
      by_cases hmi : m = i
      · exact ⟨o, hmi ▸ hf⟩
      · exact ⟨om, find_other hmi hm⟩
    obtain ⟨oj', hj'⟩ := key j oj hj
    obtain ⟨ok', hk'⟩ := key k ok hk
    exact h.apart j k oj' ok' g hj' hk'
theorem Good.twice (h : Good E sl ob a w Pr β κ) {i : Nat} {o : O} (hf : find ob i = some o) : Good E sl ((i, o) :: ob) a w Pr β κ := by
  have e : ∀ j, find ((i, o) :: ob) j = find ob j := fun j => by
    by_cases hj : j = i
    · subst hj
      rw [find_eq, hf]
    · rw [find_ne hj]
  exact ⟨h.below, h.st0, h.pr0, h.prn, h.prl, h.size, h.defers, h.slots, fun j oj hj => h.objs j oj (by rw [← e]; exact hj), fun j k oj ok g hj hk => h.apart j k oj ok g (by rw [← e]; exact hj) (by rw [← e]; exact hk), fun j oj g hj => h.own j oj g (by rw [← e]; exact hj), h.keeps, h.fresh⟩
set_option maxRecDepth 20000 in
/-- make([]T, n) -/
theorem st_mkvec {n e eb : Nat} {ez : Value} {k k' : IntKind} {l : List (List D)} (hx : ev sl x = .d (.val (.int k m))) (hy : ev sl y = .d (.val (.int k' m'))) (hT : ti t = .sl e 1 eb ez) (h1 : ez.oneCell' = true) (hm : m = (n : Int)) (hm' : m' = (n : Int)) (hb : eb * n ≤ 281474976710656) (hn : n ≤ 9223372036854775807) (hl : List.replicate n [.val ez] = l) (hd : d < E.n) (hno : noneOf d sl ob = true) :
    Step E ⟨some d, .makeSlice t x y, T, p, af, g⟩ sl ob ((d, .row d 0) :: sl) ((d, .vec e 1 0 l) :: ob) := by
  subst hl
  rintro a w ⟨Pr, β, κ, h⟩ K Q hK
  obtain ⟨hrun, hes, hc⟩ := mk_now w (k := k) (k' := k') hT h1 hm hm' hb hn
  have hx' : Below w.heap.size w (w.alloc (.cells (List.replicate n ez).toArray e)) := (Below.refl _ _).alloc (Nat.le_refl _) _
  unfold Oper.wp
  have hrun2 : (execOp a.eval ⟨some d, .makeSlice t x y, T, p, af, g⟩).run Tryd.prog w = .ok (.value (.slice (some ⟨w.heap.size, 0, none⟩) n n)) (w.alloc (.cells (List.replicate n ez).toArray e)) := by
    simp only [execOp, good_val h hx, good_val h hy, Sem.run_bind, hrun]
    rfl
  rw [hrun2, Oper.upon_value]
  refine hK _ _ (h.newobj hd hno (Pr' := Pr) (v := .slice (some ⟨w.heap.size, 0, none⟩) n n) hx' (fun _ _ h => h) (fun _ _ h => .inl h) (fun g hg => by simp [blk] at hg; omega) ?_ (fun β' κ' e1 e2 _ _ => .row d 0 _ ⟨_, _, _, rfl⟩ (Nat.zero_le _) (fun _ => e1.symm)))
  intro β' κ' e1 e2 e3 e4
  refine ⟨e2, List.replicate n ez, ⟨by simp, .inr ⟨w.heap.size, n, (List.replicate n ez).toArray, by rw [e1, List.length_replicate], Nat.zero_le _, heap_alloc_new w _, by simp, hn, by simp, by simp⟩⟩, fun x hx => ?_, fun q j x z h3 h4 => ?_, fun g hg o ho => ?_⟩
  · rw [List.mem_replicate] at hx
    rw [hx.2]
    rfl
  · obtain ⟨hq, rfl⟩ := rep_get h3
    have hj : j = 0 := by have := (List.getElem?_eq_some_iff.1 h4).1; simp at this; exact this
    subst hj
    simp at h4
    subst h4
    exact ⟨ez, by simp [hq], .val _⟩
  · rw [e1] at hg
    simp only [Value.ownBlock, Option.some.injEq] at hg
    subst hg
    have := h.prl _ _ ho
    omega
theorem aq_prot {x : Exit} {Q : Exit → Go.Act → World → Prop} (r : Nat) {e s k : Nat} {l : List (List D)} (hf : find ob r = some (.vec e s k l)) (h : AQ E x Q sl ((r, .row e s k l) :: ob)) : AQ E x Q sl ob := ⟨fun a w ⟨_, _, _, hg⟩ => h.run a w (hg.protect hf)⟩
set_option maxRecDepth 20000 in
/-- copy(out, l), into all of a slice of one's own -/
theorem st_copyvec {i k e eb : Nat} {ez : Value} {t0 t1 : TypeId} {l : List (List D)} {ds : List D} {A : Array TypeId} (hx : ev sl x = .row i k) (hf : find ob i = some (.vec e 1 k l)) (hy : ToD ob (ev sl y) (.list 1 (ds.map fun z => [z]))) (hA : A = #[t0, t1]) (hT : ti t0 = .sl e 1 eb ez) (hl : ds.length = l.length) (h1 : ∀ z ∈ ds, ∃ v, z = .val v ∧ v.oneCell' = true) (hd : d < E.n) :
    Step E ⟨some d, .call { callee := .builtin .copy, args := #[x, y], argTypes := A }, T, p, af, g⟩ sl ob ((d, .d (.val (.int .i64 ds.length))) :: sl) ((i, .vec e 1 k (ds.map fun z => [z])) :: ob) := by
  subst hA
  rintro a w ⟨Pr, β, κ, h⟩ K Q hK
  obtain ⟨_, j, _, hu, _, hj, _, hsz, _⟩ := ti_sl hT
  have hs1 : (Tryd.prog.info? e).map (·.size) = some 1 := by simp [hj, hsz]
  obtain ⟨hκ, xs, hown, hls, hds, hnp⟩ := h.objs i _ hf
  have hv := good_ev h x
  rw [hx] at hv
  generalize hav : a.eval x = v at hv
  have hvb : v = β i := hv.row_inv hκ.symm
  have hrep := toD_rep h hy (a.eval y) (good_ev h y)
  generalize hay : a.eval y = u at hrep
  generalize hdl : (ds.map fun z => [z]) = dl at hrep
  have hvs : ∃ vs : List Value, vs.length = ds.length ∧ (∀ (q : Nat) (v : Value), vs[q]? = some v → ds[q]? = some (D.val v)) ∧ (∀ v ∈ vs, v.oneCell' = true) := by
    refine ⟨ds.map fun z : D => match z with | D.val v => v | _ => undef, by simp, fun q v hq => ?_, fun v hv => ?_⟩
    · rw [List.getElem?_map, Option.map_eq_some_iff] at hq
      obtain ⟨z, hz, rfl⟩ := hq
      obtain ⟨v, rfl, _⟩ := h1 z (List.mem_of_getElem? hz)
      exact hz
    · obtain ⟨z, hz, rfl⟩ := List.mem_map.1 hv
      obtain ⟨v, rfl, hv1⟩ := h1 z hz
      exact hv1
  obtain ⟨vs, hvl, hvd, hv1⟩ := hvs
  by_cases h0 : ds = []
  · subst h0
    obtain rfl : l = [] := List.eq_nil_of_length_eq_zero hl.symm
    obtain rfl : dl = [] := hdl.symm
    have hrun : (execOp a.eval ⟨some d, .call { callee := .builtin .copy, args := #[x, y], argTypes := #[t0, t1] }, T, p, af, g⟩).run Tryd.prog w = .ok (.value (goInt 0)) w := by
      rcases hown.2 with ⟨hb, _⟩ | ⟨g', cap, cur, hb, hB, hh, hc, hm, hcs, htk⟩
      · rw [hvb, hb] at hav
        cases hrep with
        | nil A' c' _ hc' => simp [execOp, resolve, invoke, builtin, hav, hay, run_copy_none w t0 t1 T e none A' 0 0 0 c' hu hs1 (by simp)]
        | list b o n c' _ _ uu hn _ hc' hm' _ _ =>
          simp at hn
          subst hn
          simp [execOp, resolve, invoke, builtin, hav, hay, run_copy_none w t0 t1 T e none (some ⟨b, o, none⟩) 0 0 0 c' hu hs1 (by simp)]
      · rw [hvb, hb] at hav
        cases hrep with
        | nil A' c' _ hc' => simp [execOp, resolve, invoke, builtin, hav, hay, run_copy_none w t0 t1 T e _ A' 0 cap 0 c' hu hs1 (by simp)]
        | list b o n c' _ _ uu hn _ hc' hm' _ _ =>
          simp at hn
          subst hn
          simp [execOp, resolve, invoke, builtin, hav, hay, run_copy_none w t0 t1 T e _ (some ⟨b, o, none⟩) 0 cap 0 c' hu hs1 (by simp)]
    unfold Oper.wp
    rw [hrun, Oper.upon_value]
    exact hK _ _ ⟨Pr, β, κ, (h.twice hf).put hd (.d _ _ (.val _))⟩
  · have hlp : 0 < l.length := by
      have : 0 < ds.length := List.length_pos_iff.2 h0
      omega
    rcases hown.2 with ⟨_, hb0⟩ | ⟨g', cap, cur, hb, hB, hh, hc, hm, hcs, htk⟩
    · omega
    · rw [hvb, hb] at hav
      cases hrep with
      | nil A' c' _ hc' => exact absurd (List.map_eq_nil_iff.1 hdl) h0
      | list b o n c' _ _ uu hn _ hc' hm' hr' hd' =>
        have hn2 : n = ds.length := by rw [← hn, ← hdl, List.length_map]
        subst hn2
        have hsrc : ∀ q v, vs[q]? = some v → w.cell? ((⟨b, o, none⟩ : Addr).add q) = some v := fun q v hq => by
          have hz := hvd q v hq
          have h2 : dl[q]? = some [.val v] := by rw [← hdl, List.getElem?_map, hz]; rfl
          have h3 := (hr' q 0 _ (.val v) h2 rfl).1
          have h4 := hd' q 0 _ (.val v) h2 rfl
          have h5 : uu q 0 = v := by
            generalize uu q 0 = z at h4
            cases h4
            rfl
          rw [Addr.add_lit, ← h5]
          simpa using h3
        have hcur : cur.size = cap := by rw [hcs, Nat.mul_one]
        have hrun := run_copy_row (P := Tryd.prog) w t0 t1 T e g' 0 l.length cap ⟨b, o, none⟩ ds.length c' cur e vs hu hs1 hh (by rw [hvl, hl]; exact (Nat.min_self _).symm) hsrc (by omega) hv1
        have hrun2 : (execOp a.eval ⟨some d, .call { callee := .builtin .copy, args := #[x, y], argTypes := #[t0, t1] }, T, p, af, g⟩).run Tryd.prog w = .ok (.value (goInt ds.length)) (w.setRow g' (vs ++ cur.toList.drop ds.length).toArray) := by
          have hv3 : vs.length = ds.length := hvl
          simp [execOp, resolve, invoke, builtin, hav, hay, hrun, hv3]
        unfold Oper.wp
        rw [hrun2, Oper.upon_value]
        have hG : Good E sl ((i, .vec e 1 k (ds.map fun z => [z])) :: ob) a (w.setRow g' (vs ++ cur.toList.drop ds.length).toArray) Pr β κ := by
          refine h.setobj2 (T := e) hf (by rw [hb]; rfl) (fun q => hnp g' (by rw [hb]; rfl) q) ⟨_, hh⟩ (fun hkeep => ?_)
          refine ⟨hκ, vs, ⟨by simp [hvl], .inr ⟨g', cap, (vs ++ cur.toList.drop ds.length).toArray, by rw [hb, List.length_map, hl], hB, setRow_heap w g' _ _ _ _ hh, by rw [List.length_map]; omega, hm, by simp [hvl]; omega, ?_⟩⟩, fun x hx => ?_, fun q j x z h3 h4 => ?_, hnp⟩
          · simp only [List.length_map, Nat.mul_one]
            exact List.take_left' hvl
          · obtain ⟨z, _, rfl⟩ := List.mem_map.1 hx
            rfl
          · rw [List.getElem?_map, Option.map_eq_some_iff] at h3
            obtain ⟨z2, hz2, rfl⟩ := h3
            have hj : j = 0 := by have := (List.getElem?_eq_some_iff.1 h4).1; simp at this; exact this
            subst hj
            simp at h4
            subst h4
            have hq : q < vs.length := by rw [hvl]; exact (List.getElem?_eq_some_iff.1 hz2).1
            have hq2 := hvd q _ (List.getElem?_eq_getElem hq)
            rw [hz2] at hq2
            cases hq2
            exact ⟨vs[q], by simp [hq], .val _⟩
        exact hK _ _ ⟨Pr, β, κ, hG.put hd (.d _ _ (.val _))⟩
variable {ops : List Oper} {tail : (World → Prop) → Go.Act → World → Prop} {Q : Exit → Go.Act → World → Prop} {i : Nat} {op : Op} {pl : List (Nat × Bool × Oper)} {sl0 : Slots} {ob0 : Objs}
/-- an operation where it stands; what it says without memory is known later -/
theorem am_nowd {x : V} (hw : Want ops sl true g) (h : Y E ⟨some d, op, ty, p, af, g⟩ sl ob x) (hd : d < E.n) (hK : AM E ops tail Q pl ((d, flatV x) :: sl0) ob0 ((d, x) :: sl) ob) : AM E ops tail Q ((i, false, ⟨some d, op, ty, p, af, g⟩) :: pl) sl0 ob0 sl ob :=
  ⟨fun a w0 w Pr Pr1 β β1 κ κ1 h0 h1 hn => by
    obtain ⟨v, hv, hr⟩ := h a w Pr1 β1 κ1 h1
    refine mix_move (hw.is h1) (fun K hKK => ?_)
    unfold Oper.wp
    rw [hr w (Kept.refl _ _ _ _), Oper.upon_value]
    refine hKK.out _ _ hn.kept fun _ => hK.run _ w0 w Pr Pr1 β β1 κ κ1 (h0.put hd ?_) (h1.put hd hv) hn
    cases x with
    | d z => exact rep_flat hv.d_inv
    | _ => exact .und _⟩
end
end Go.Proofs.YtfgibalcdjlnhaaDoor
end
section
namespace Go.Proofs.YtfgibalcdjlnhaaDoor
open Go.RowKit

/-- the values of bytes -/
def bytV (l : List UInt8) : List Value := l.map fun b => .int .u8 (b.toNat : Int)
section
variable {E : Entry} {sl : Slots} {ob : Objs} {a : Act} {w : World} {Pr : Prot} {β : Nat → Value} {κ : Nat → Nat}
end
section
variable {E : Entry} {sl : Slots} {ob : Objs} {d : Nat} {x y : Operand} {t T : TypeId} {p : String} {af : Array Edge}
end
end Go.Proofs.YtfgibalcdjlnhaaDoor
end
section
namespace Go.Proofs.YtfgibalcdjlnhaaDoor
open Go.RowKit

section
variable {E : Entry} {sl : Slots} {ob : Objs} {a : Go.Act} {w : World} {Pr : Prot} {β : Nat → Value} {κ : Nat → Nat}
end
end Go.Proofs.YtfgibalcdjlnhaaDoor
end
section
namespace Go.Proofs.YtfgibalcdjlnhaaDoor
open Go.RowKit

section
variable {E : Entry} {sl : Slots} {ob : Objs} {a : Act} {w : World} {Pr : Prot} {β : Nat → Value} {κ : Nat → Nat}
variable {t T ty : TypeId} {p : String} {af : Array Edge} {g : Option (Nat × Bool)} {x : Operand}
theorem nil_nil {w' : World} {pe : TypeId} (ht : Tryd.prog.underlying t = some (.pointer pe)) : (Op.equalIn Op.maxDepth t (.pointer none) (.pointer none)).run Tryd.prog w' = .ok true w' := by
  have : ∀ d : Nat, (Op.equalIn (d + 1) t (.pointer none) (.pointer none)).run Tryd.prog w' = .ok true w' := fun d => by simp [Op.equalIn, run_underlying ht]
  exact this 9999
theorem y_nilnil {dd : Option Nat} {pe : TypeId} (hx : ev sl x = .d (.val (.pointer none))) (ht : Tryd.prog.underlying t = some (.pointer pe)) : Y E ⟨dd, .binOp .eql t x (.const (.pointer none)) ty, T, p, af, g⟩ sl ob (.d (.val (.bool true))) := fun a w Pr β κ h => by
  have hv := good_ev h x
  rw [hx] at hv
  have hav := hv.val_inv
  have hc : a.eval (.const (.pointer none)) = Value.pointer none := rfl
  exact ⟨_, .d _ _ (.val _), fun w' _ => by simp [execOp, hav, hc, eqGuard_at_pointer, binOp, Op.equal, nil_nil ht]⟩
/-- what a slot shows is read as a datum from now on -/
theorem Good.told (h : Good E sl ob a w Pr β κ) {j : Nat} {d : D} (hd : ToD ob (look sl j) d) : Good E ((j, .d d) :: sl) ob a w Pr β κ := by
  refine ⟨h.below, h.st0, h.pr0, h.prn, h.prl, h.size, h.defers, fun k => ?_, h.objs, h.apart, h.own, h.keeps, h.fresh⟩
  by_cases hk : k = j
  · subst hk
    rw [look_eq]
    exact .d _ _ (toD_rep h hd _ (h.slots k))
  · rw [look_ne hk]
    exact h.slots k
theorem aw_told {z : Code} {Q : Exit → Act → World → Prop} (j : Nat) {d : D} (hd : ToD ob (look sl j) d) (h : AW E z Q ((j, .d d) :: sl) ob) : AW E z Q sl ob := ⟨fun a w ⟨_, _, _, hg⟩ => h.run a w ⟨_, _, _, hg.told hd⟩⟩
theorem aq_told {z : Exit} {Q : Exit → Act → World → Prop} (j : Nat) {d : D} (hd : ToD ob (look sl j) d) (h : AQ E z Q ((j, .d d) :: sl) ob) : AQ E z Q sl ob := ⟨fun a w ⟨_, _, _, hg⟩ => h.run a w ⟨_, _, _, hg.told hd⟩⟩
end
end Go.Proofs.YtfgibalcdjlnhaaDoor
end
section
namespace Go.Proofs.YtfgibalcdjlnhaaDoor
open Go.ChangeShapes Go.WideShapes Go.ChangeAt Go.RowKit Go.Deep Go.Joins

theorem own : ownKnob Tryd.prog.godebug = none := by kernel_rfl
theorem laidOut : laidOutB Tryd.prog = true := by kernel_rfl

section
variable {H : Type} {enc : TypeId × Value → H} {P : Program}
theorem trodAll_below (hl : laidOutB P = true) {W W' : World} (hb : Below W.heap.size W W') : ∀ {ts : List TypeId} {vs : List Value} {ds : List (DataW H)} {ps : List MemPlace},
    (ts.all fun t => P.readableRec t && decide (t < P.types.size)) = true → DataW.TrodAll enc P W 0 (fun _ => true) true ts vs ds ps → (∀ x ∈ ps, x.block < W.heap.size) →
    DataW.TrodAll enc P W' 0 (fun b => decide (b < W.heap.size)) true ts vs ds ps
  | [], vs, ds, ps, _, h, _ => by
    obtain ⟨rfl, rfl, rfl⟩ := trodAll_nil h
    exact trodAll_mk0
  | t :: ts, vs, ds, ps, hk, h, hlt => by
    obtain ⟨v, vs', d, ds', p, p', rfl, rfl, rfl, h0, hr⟩ := trodAll_cons h
    simp only [List.all_cons, Bool.and_eq_true, decide_eq_true_eq] at hk
    exact trodAll_cons_mk (Below.trod hl hk.1.1 hk.1.2 h0 hb (fun x hx => hlt x (List.mem_append_left _ hx))) (trodAll_below hl hb hk.2 hr (fun x hx => hlt x (List.mem_append_right _ hx)))

/-- A law's post: true; the arguments read as they did. -/
theorem law_post {f : Func} {s : ChangeSpec} {W W' : World} {args : Array Value} {ds gs : List (DataW H)} {before : List MemPlace} {tb : TypeId}
    (hl : laidOutB P = true) (hbool : P.underlying tb = some .bool) (hres : f.resultTypes = #[tb]) (hpar : (f.params.toList.all fun t => P.readableRec t && decide (t < P.types.size)) = true)
    (hvars : s.vars = []) (hW : DataW.Whole enc P f.params.toList s.vars false W args.toList ds gs before)
    (hfn : s.fn H (ds ++ gs) = { results := [.lit (.bool true)], args := ds }) (hb : Below W.heap.size W W') :
    s.post enc P f false true false false W args (.bool true) W' := by
  have hW' := hW
  obtain ⟨p, q, hA, hV, rfl, _, _⟩ := hW
  rw [hvars] at hV
  obtain ⟨rfl, rfl⟩ := trodVars_none hV
  have hA' : DataW.TrodAll enc P W 0 (fun _ => true) true f.params.toList args.toList ds p := hA
  refine ⟨ds, [], p ++ [], [], p, [], hW', ?_, ?_, ?_, hb.frame _, fun h => by cases h⟩
  · rw [hfn, hres]
    exact trodAll_cons_mk (shut_bool hbool true) trodAll_mk0
  · rw [hfn]
    exact trodAll_below hl hb hpar hA' hA'.lt
  · rw [hfn, hvars]
    rfl

end
end Go.Proofs.YtfgibalcdjlnhaaDoor
end
section
namespace Go.Proofs.YtfgibalcdjlnhaaDoor
open Go.ChangeShapes Go.WideShapes Go.ChangeAt Go.RowKit Go.Deep Go.Joins

theorem reps_nil {w : World} {Pr : Prot} : ∀ (i : Nat) (v : Value) (d : D), ([] : List Value)[i]? = some v → ([] : List D)[i]? = some d → RepD w Pr v d := by simp
theorem reps_cons {w : World} {Pr : Prot} {v : Value} {d : D} {vs : List Value} {ds : List D} (h : RepD w Pr v d) (hr : ∀ (i : Nat) (v : Value) (d : D), vs[i]? = some v → ds[i]? = some d → RepD w Pr v d) :
    ∀ (i : Nat) (u : Value) (e : D), (v :: vs)[i]? = some u → (d :: ds)[i]? = some e → RepD w Pr u e
  | 0, _, _, h1, h2 => by cases h1; cases h2; exact h
  | i + 1, u, e, h1, h2 => hr i u e h1 h2
section
variable {H : Type} {enc : TypeId × Value → H}
end
end Go.Proofs.YtfgibalcdjlnhaaDoor
end
section
namespace Go.Proofs.YtfgibalcdjlnhaaDoor
open Go.ChangeShapes Go.WideShapes Go.ChangeAt Go.RowKit Go.Deep Go.Joins

section
variable {H : Type} {enc : TypeId × Value → H} {P : Program} {w : World} {base : Nat}
/-- Cells that read at type t show some a, by f. -/
def Show (enc : TypeId × Value → H) (P : Program) (w : World) (base : Nat) (t : TypeId) (c : Nat) {α : Type} (f : α → List D) (Q : α → Prop) : Prop :=
  ∀ (fuel : Nat) (cs : List Value) (x : DataW H × List MemPlace), DataW.trod enc P w base (fun _ => true) true fuel t cs = some x →
    cs.length = c ∧ ∃ a, Q a ∧ (f a).length = c ∧ ∀ (j : Nat) (v : Value) (d : D), cs[j]? = some v → (f a)[j]? = some d → RepD w (fun b _ => b < w.heap.size) v d
theorem show_one {α : Type} {t : TypeId} {g : α → D} {Q : α → Prop} (h : ∀ (fuel : Nat) (cs : List Value) (x : DataW H × List MemPlace), DataW.trod enc P w base (fun _ => true) true fuel t cs = some x → ∃ v a, cs = [v] ∧ Q a ∧ RepD w (fun b _ => b < w.heap.size) v (g a)) :
    Show enc P w base t 1 (fun a => [g a]) Q := by
  intro fuel cs x hx
  obtain ⟨v, a, rfl, ha, hr⟩ := h fuel cs x hx
  refine ⟨rfl, a, ha, rfl, fun j u d h1 h2 => ?_⟩
  cases j with
  | zero => cases h1; cases h2; exact hr
  | succ j => cases h1
theorem show_int {t : TypeId} {k : IntKind} (ht : P.underlying t = some (.int k)) : Show enc P w base t 1 (fun n : Int => [.val (.int k n)]) (fun n => k.min ≤ n ∧ n ≤ k.max) :=
  show_one (g := fun n : Int => .val (.int k n)) fun fuel cs x hx => by
    obtain ⟨n, rfl, _, hw⟩ := DataW.trod_int ht hx
    exact ⟨_, n, rfl, by simpa [Lit.wf] using hw, .val _⟩
theorem show_string {t : TypeId} (ht : P.underlying t = some .string) : Show enc P w base t 1 (fun s : ByteArray => [.str s]) (fun s => s.size ≤ maxLen) :=
  show_one (g := fun s : ByteArray => .str s) fun fuel cs x hx => by
    obtain ⟨s, rfl, _, hw⟩ := DataW.trod_string ht hx
    exact ⟨_, s, rfl, hw, .val _⟩
/-- A list of what its elements show. -/
theorem show_list {α : Type} {t e : TypeId} {es : Nat} {f : α → List D} {Q : α → Prop} (ht : P.underlying t = some (.slice e)) (hc : P.cellsOf e = es) (hpos : 0 < es) (he : Show enc P w base e es f Q) :
    Show enc P w base t 1 (fun l : List α => [.list es (l.map f)]) (fun l => l.length ≤ maxLen ∧ ∀ x ∈ l, Q x) :=
  show_one (g := fun l : List α => .list es (l.map f)) fun fuel cs x hx => by
    rcases open_slice ht hx with ⟨rfl, _⟩ | ⟨a, len, cap, m, k, Dt, Pl, rfl, hb, hl, hm, hmm, _, hf⟩
    · exact ⟨_, [], rfl, ⟨Nat.zero_le _, by simp⟩, .nil _ _ _ (Nat.zero_le _)⟩
    · refine ⟨.slice (some a) len cap, ?_⟩
      simp only [if_true] at hmm
      subst hmm
      rw [hc] at hf
      rcases Nat.eq_zero_or_pos len with h0 | h0
      · subst h0
        exact ⟨[], rfl, ⟨Nat.zero_le _, by simp⟩, .nil _ _ _ hm⟩
      have h1 : ∀ i, i < len → ∃ y : α × List Value, Q y.1 ∧ w.cells? base (a.add (i * es)) es = some y.2 ∧ y.2.length = es ∧ (f y.1).length = es ∧ ∀ (j : Nat) (v : Value) (d : D), y.2[j]? = some v → (f y.1)[j]? = some d → RepD w (fun b _ => b < w.heap.size) v d := by
        intro i hi
        obtain ⟨cs, hcell, htr⟩ := hf i (by omega)
        obtain ⟨h2, y, h3, h4, h5⟩ := he _ _ _ htr
        exact ⟨(y, cs), h3, hcell, h2, h4, h5⟩
      haveI : Inhabited (α × List Value) := ⟨Classical.choose (h1 0 h0)⟩
      obtain ⟨g, hg⟩ := choose_lt h1
      obtain ⟨b, o, spot⟩ := a
      have hspot : spot = none := by
        obtain ⟨_, h2, h3, _, _⟩ := hg 0 h0
        have h4 := (World.cells?_some h2).2.2 0 hpos
        rw [List.getElem?_eq_getElem (by omega)] at h4
        simpa [Addr.add] using World.cell?_spot h4
      subst hspot
      have hblk : b < w.heap.size := by
        obtain ⟨_, h2, _⟩ := hg 0 h0
        have := World.cells?_block h2 hpos
        simpa [Addr.add] using this
      refine ⟨(List.range len).map fun i => (g i).1, rfl, ⟨?_, fun x hx => ?_⟩, ?_⟩
      · simp only [List.length_map, List.length_range]
        omega
      · obtain ⟨j, hj, rfl⟩ := List.mem_map.1 hx
        exact (hg j (List.mem_range.1 hj)).1
      have hval : ∀ (i j : Nat) (e : List D) (d : D), (((List.range len).map fun i => (g i).1).map f)[i]? = some e → e[j]? = some d → i < len ∧ j < es ∧ e = f (g i).1 ∧ ∃ v, (g i).2[j]? = some v := by
        intro i j e d h2 h3
        rw [List.getElem?_map, List.getElem?_map, Option.map_eq_some_iff] at h2
        obtain ⟨x, h4, rfl⟩ := h2
        rw [Option.map_eq_some_iff] at h4
        obtain ⟨k, h5, rfl⟩ := h4
        have hi : i < len := by have := (List.getElem?_eq_some_iff.1 h5).1; simpa using this
        have hk : k = i := by simpa [hi] using h5.symm
        subst hk
        obtain ⟨_, _, h6, h7, _⟩ := hg k hi
        have hj : j < es := by have := (List.getElem?_eq_some_iff.1 h3).1; omega
        exact ⟨hi, hj, rfl, _, List.getElem?_eq_getElem (by omega)⟩
      refine .list b o len m es _ (fun i j => ((g i).2[j]?).getD undef) (by simp) (fun e he => ?_) hl hm (fun i j e d h2 h3 => ?_) (fun i j e d h2 h3 => ?_)
      · obtain ⟨x, hx, rfl⟩ := List.mem_map.1 he
        obtain ⟨j, hj, rfl⟩ := List.mem_map.1 hx
        exact (hg j (List.mem_range.1 hj)).2.2.2.1
      · obtain ⟨hi, hj, rfl, v, hv⟩ := hval i j e d h2 h3
        refine ⟨?_, hblk⟩
        obtain ⟨_, h4, _⟩ := hg i hi
        have h5 := (World.cells?_some h4).2.2 j hj
        rw [hv, add_plain, add_plain] at h5
        rw [hv]
        exact h5
      · obtain ⟨hi, hj, rfl, v, hv⟩ := hval i j e d h2 h3
        rw [hv]
        exact (hg i hi).2.2.2.2 j v d hv h3
/-- Fields from an offset on. -/
def ShowFs (enc : TypeId × Value → H) (P : Program) (w : World) (base : Nat) (o : Nat) (fs : List Field) (c : Nat) {α : Type} (f : α → List D) (Q : α → Prop) : Prop :=
  ∀ (n : Nat) (cs : List Value), (∀ (i : Nat) (fl : Field), fs[i]? = some fl → ∃ y, DataW.trod enc P w base (fun _ => true) true n fl.type ((cs.drop fl.offset).take (P.cellsOf fl.type)) = some y) →
    ∃ a, Q a ∧ (f a).length = c ∧ ∀ (j : Nat) (v : Value) (d : D), cs[o + j]? = some v → (f a)[j]? = some d → RepD w (fun b _ => b < w.heap.size) v d
theorem shows_nil {o : Nat} : ShowFs enc P w base o [] 0 (fun _ : Unit => []) (fun _ => True) := fun _ _ _ => ⟨(), trivial, rfl, fun j v d _ h => by cases h⟩
theorem shows_cons {α β : Type} {fl : Field} {o c c' : Nat} {fs : List Field} {f : α → List D} {Q : α → Prop} {g : β → List D} {R : β → Prop} (h : Show enc P w base fl.type c f Q) (ho : fl.offset = o) (hc : P.cellsOf fl.type = c)
    (hr : ShowFs enc P w base (o + c) fs c' g R) : ShowFs enc P w base o (fl :: fs) (c + c') (fun x : α × β => f x.1 ++ g x.2) (fun x => Q x.1 ∧ R x.2) := by
  intro n cs hcs
  obtain ⟨y, hy⟩ := hcs 0 fl rfl
  obtain ⟨_, a, h1, h2, h3⟩ := h _ _ _ hy
  obtain ⟨b, h4, h5, h6⟩ := hr n cs fun i f hf => hcs (i + 1) f hf
  refine ⟨(a, b), ⟨h1, h4⟩, by simp [h2, h5], fun j v d hv hd => ?_⟩
  have hd : (f a ++ g b)[j]? = some d := hd
  by_cases hj : j < c
  · rw [List.getElem?_append_left (by omega)] at hd
    refine h3 j v d ?_ hd
    rw [ho, hc, List.getElem?_take, if_pos hj, List.getElem?_drop]
    exact hv
  · rw [List.getElem?_append_right (by omega), h2] at hd
    refine h6 (j - c) v d ?_ hd
    rw [show o + c + (j - c) = o + j by omega]
    exact hv
theorem show_struct {α : Type} {t : TypeId} {fs : Array Field} {c : Nat} {f : α → List D} {Q : α → Prop} (ht : P.underlying t = some (.struct fs)) (hc : P.cellsOf t = c) (h : ShowFs enc P w base 0 fs.toList c f Q) : Show enc P w base t c f Q := by
  intro fuel cs x hx
  obtain ⟨xs, n, _, _, hl, hlen, hf⟩ := DataW.trod_struct ht hx
  obtain ⟨a, h1, h2, h3⟩ := h n cs fun i fl hfl => by
    have hfl' : fs[i]? = some fl := by simpa using hfl
    have hi : i < fs.size := (Array.getElem?_eq_some_iff.1 hfl').1
    exact ⟨_, (hf i fl hfl').trans (List.getElem?_eq_getElem (by omega))⟩
  exact ⟨hl.trans hc, a, h1, h2, fun j v d hv hd => h3 j v d (by simpa using hv) hd⟩
theorem Show.as {α β : Type} {t : TypeId} {c : Nat} {f : α → List D} {Q : α → Prop} (h : Show enc P w base t c f Q) (g : β → List D) (R : β → Prop) (m : α → β) (hg : ∀ a, g (m a) = f a) (hR : ∀ a, Q a → R (m a)) : Show enc P w base t c g R := by
  intro fuel cs x hx
  obtain ⟨h1, a, h2, h3, h4⟩ := h fuel cs x hx
  exact ⟨h1, m a, hR a h2, by rw [hg]; exact h3, by rw [hg]; exact h4⟩
/-- A value that came in, of one cell. -/
theorem open_one {α : Type} {t : TypeId} {g : α → D} {Q : α → Prop} {v : Value} {d : DataW H} {ps : List MemPlace} (h : Show enc P w base t 1 (fun a => [g a]) Q) (hv : v.cells = #[v]) (hd : DataW.Trod enc P w base (fun _ => true) true t v d ps) :
    ∃ a, Q a ∧ RepD w (fun b _ => b < w.heap.size) v (g a) := by
  obtain ⟨fuel, hf⟩ := hd
  rw [hv] at hf
  obtain ⟨_, a, h1, _, h2⟩ := h _ _ _ hf
  exact ⟨a, h1, h2 0 v (g a) rfl rfl⟩
end
end Go.Proofs.YtfgibalcdjlnhaaDoor
end
section
namespace Go.Proofs
def Tryd.lays137_ren : Go.Shelf.Ren := ⟨fun | 137 => 49 | 217 => 57 | 266 => 63 | n => n, fun | 9 => 9 | 5 => 5 | 3 => 3 | n => n, fun | n => n⟩
theorem Tryd.lays137 : Go.Proofs.Lays.n137 Tryd.prog Tryd.lays137_ren := {
  mixed := by kernel_rfl
  f137 := Tryd.func49.trans (congrArg some (by kernel_rfl))
  f217 := Tryd.func57.trans (congrArg some (by kernel_rfl))
  f266 := Tryd.func63.trans (congrArg some (by kernel_rfl))
  t3 := Tryd.underlying3
  a3 := Tryd.isAgg3
  z3 := Tryd.sizeOf3
  v3 := Tryd.zeroValue3
  t5 := Tryd.underlying5
  a5 := Tryd.isAgg5
  z5 := Tryd.sizeOf5
  v5 := Tryd.zeroValue5
  t9 := Tryd.underlying9
  a9 := Tryd.isAgg9
  z9 := Tryd.sizeOf9
  v9 := Tryd.zeroValue9 }
open Go.RowKit in
/-- strings.IndexByte: "IndexByte returns the index of the first instance of c in s, or -1 if c is not present in s.": IT RETURNS 'Lib.indexByte s c'; the world is as it was. (LAID: no walk: one application.) -/
theorem Tryd.strings_IndexByte (s : ByteArray) (c : Int) (w : World) :
    Calls Tryd.prog 49 #[.string s, .int .u8 c] w fun e w' => e = .returned (.int .i64 (Lib.indexByte s.data.toList c.toNat.toUInt8)) ∧ w' = w := Any.strings_IndexByte Tryd.lays137 s c w
def Tryd.lays103_ren : Go.Shelf.Ren := ⟨fun | 103 => 51 | 210 => 60 | 206 => 69 | n => n, fun | 9 => 9 | 4 => 4 | 24 => 87 | 3 => 3 | n => n, fun | n => n⟩
theorem Tryd.lays103 : Go.Proofs.Lays.n103 Tryd.prog Tryd.lays103_ren := {
  mixed := by kernel_rfl
  f103 := Tryd.func51.trans (congrArg some (by kernel_rfl))
  f206 := Tryd.func69.trans (congrArg some (by kernel_rfl))
  f210 := Tryd.func60.trans (congrArg some (by kernel_rfl))
  t3 := Tryd.underlying3
  a3 := Tryd.isAgg3
  z3 := Tryd.sizeOf3
  v3 := Tryd.zeroValue3
  t4 := Tryd.underlying4
  a4 := Tryd.isAgg4
  z4 := Tryd.sizeOf4
  v4 := Tryd.zeroValue4
  t9 := Tryd.underlying9
  a9 := Tryd.isAgg9
  z9 := Tryd.sizeOf9
  v9 := Tryd.zeroValue9
  t24 := Tryd.underlying87
  a24 := Tryd.isAgg87
  z24 := Tryd.sizeOf87
  v24 := Tryd.zeroValue87 }
open Go.RowKit in
/-- strings.CutPrefix: "CutPrefix returns s without the provided leading prefix string and reports whether it found the prefix. If s doesn't start with prefix, CutPrefix returns s, false. If prefix is the empty string, CutPrefix returns s, true.": IT RETURNS '(Lib.trimPrefix s p, Lib.hasPrefix s p)'; the world is as it was. (LAID: no walk: one application.) -/
theorem Tryd.strings_CutPrefix (s p : ByteArray) (w : World) :
    Calls Tryd.prog 51 #[.string s, .string p] w fun e w' => e = .returned (.tuple #[.string ⟨(Lib.trimPrefix s.data.toList p.data.toList).toArray⟩, .bool (Lib.hasPrefix s.data.toList p.data.toList)]) ∧ w' = w := Any.strings_CutPrefix Tryd.lays103 s p w
def Tryd.laysM171_ren : Go.Shelf.Ren := ⟨fun | 171 => 44 | 243 => 52 | 246 => 61 | 283 => 70 | 284 => 71 | 285 => 72 | 286 => 73 | 129 => 78 | 317 => 77 | 318 => 79 | 319 => 80 | 320 => 81 | 337 => 84 | 338 => 85 | n => n, fun | 3 => 3 | 9 => 9 | 2 => 2 | 4 => 4 | 171 => 103 | 0 => 0 | 53 => 104 | 37 => 36 | 5 => 5 | 173 => 107 | 212 => 116 | 51 => 117 | 20 => 20 | 213 => 118 | 46 => 111 | 232 => 127 | 233 => 128 | n => n, fun | 17 => 3 | 18 => 4 | 19 => 5 | n => n⟩
theorem Tryd.laysM171 : Go.Proofs.LaysM.n171 Tryd.prog Tryd.laysM171_ren := {
  mixed := by kernel_rfl
  f129 := Tryd.func78.trans (congrArg some (by kernel_rfl))
  f171 := Tryd.func44.trans (congrArg some (by kernel_rfl))
  f243 := Tryd.func52.trans (congrArg some (by kernel_rfl))
  f246 := Tryd.func61.trans (congrArg some (by kernel_rfl))
  f283 := Tryd.func70.trans (congrArg some (by kernel_rfl))
  f284 := Tryd.func71.trans (congrArg some (by kernel_rfl))
  f285 := Tryd.func72.trans (congrArg some (by kernel_rfl))
  f286 := Tryd.func73.trans (congrArg some (by kernel_rfl))
  f317 := Tryd.func77.trans (congrArg some (by kernel_rfl))
  f318 := Tryd.func79.trans (congrArg some (by kernel_rfl))
  f319 := Tryd.func80.trans (congrArg some (by kernel_rfl))
  f320 := Tryd.func81.trans (congrArg some (by kernel_rfl))
  f337 := Tryd.func84.trans (congrArg some (by kernel_rfl))
  f338 := Tryd.func85.trans (congrArg some (by kernel_rfl))
  t0 := Tryd.underlying0
  a0 := Tryd.isAgg0
  z0 := Tryd.sizeOf0
  v0 := Tryd.zeroValue0
  t2 := Tryd.underlying2
  a2 := Tryd.isAgg2
  z2 := Tryd.sizeOf2
  v2 := Tryd.zeroValue2
  t3 := Tryd.underlying3
  a3 := Tryd.isAgg3
  z3 := Tryd.sizeOf3
  v3 := Tryd.zeroValue3
  t4 := Tryd.underlying4
  a4 := Tryd.isAgg4
  z4 := Tryd.sizeOf4
  v4 := Tryd.zeroValue4
  t5 := Tryd.underlying5
  a5 := Tryd.isAgg5
  z5 := Tryd.sizeOf5
  v5 := Tryd.zeroValue5
  t9 := Tryd.underlying9
  a9 := Tryd.isAgg9
  z9 := Tryd.sizeOf9
  v9 := Tryd.zeroValue9
  t20 := Tryd.underlying20
  a20 := Tryd.isAgg20
  z20 := Tryd.sizeOf20
  v20 := Tryd.zeroValue20
  t37 := Tryd.underlying36
  a37 := Tryd.isAgg36
  z37 := Tryd.sizeOf36
  v37 := Tryd.zeroValue36
  t46 := Tryd.underlying111
  a46 := Tryd.isAgg111
  z46 := Tryd.sizeOf111
  v46 := Tryd.zeroValue111
  t51 := Tryd.underlying117
  a51 := Tryd.isAgg117
  z51 := Tryd.sizeOf117
  v51 := Tryd.zeroValue117
  t53 := Tryd.underlying104
  a53 := Tryd.isAgg104
  z53 := Tryd.sizeOf104
  v53 := Tryd.zeroValue104
  t171 := Tryd.underlying103
  a171 := Tryd.isAgg103
  z171 := Tryd.sizeOf103
  v171 := Tryd.zeroValue103
  t173 := Tryd.underlying107
  a173 := Tryd.isAgg107
  z173 := Tryd.sizeOf107
  v173 := Tryd.zeroValue107
  t212 := Tryd.underlying116
  a212 := Tryd.isAgg116
  z212 := Tryd.sizeOf116
  v212 := Tryd.zeroValue116
  t213 := Tryd.underlying118
  a213 := Tryd.isAgg118
  z213 := Tryd.sizeOf118
  t232 := Tryd.underlying127
  a232 := Tryd.isAgg127
  z232 := Tryd.sizeOf127
  v232 := Tryd.zeroValue127
  t233 := Tryd.underlying128
  a233 := Tryd.isAgg128
  z233 := Tryd.sizeOf128
  v233 := Tryd.zeroValue128
  g17 := by kernel_rfl
  g18 := by kernel_rfl
  g19 := by kernel_rfl
  i0 := by kernel_rfl
  i2 := by kernel_rfl
  i3 := by kernel_rfl
  i4 := by kernel_rfl
  i5 := by kernel_rfl
  i9 := by kernel_rfl
  i20 := by kernel_rfl
  i37 := by kernel_rfl
  i46 := by kernel_rfl
  i51 := by kernel_rfl
  i53 := by kernel_rfl
  i171 := by kernel_rfl
  i173 := by kernel_rfl
  i212 := by kernel_rfl
  i232 := by kernel_rfl
  i233 := by kernel_rfl
  m17 := by kernel_rfl
  m18 := by kernel_rfl
  m19 := by kernel_rfl }
open Go.RowKit Go.Sort Go.Lib in
/-- strconv.Itoa: "Itoa is equivalent to FormatInt(int64(i), 10).": i's DECIMAL NUMERAL ('Lib.itoa': a '-' where i is negative, then the digits), FOR EVERY int. The world behind the call: the world before it, new blocks behind the heap (the library's 'var a [24]byte'), draws. (LAID: no walk: one application.) -/
theorem Tryd.strconv_Itoa (n : Int) (h0 : -9223372036854775808 ≤ n) (h1 : n ≤ 9223372036854775807) (w : World) (htab : Lib.TabIs Tryd.prog w "internal/strconv.uint64pow10" .u64 Lib.pow10Tab) :
    Calls Tryd.prog 44 #[.int .i64 n] w fun e w' => e = .returned (.string ⟨(Lib.itoa n).toArray⟩) ∧ ∃ k os, w' = grow (w.drewN k) os := Any.strconv_Itoa Tryd.laysM171 n h0 h1 w htab
def Tryd.laysC172_ren : Go.Shelf.Ren := ⟨fun | 172 => 50 | 244 => 58 | 245 => 59 | 247 => 64 | 279 => 65 | 280 => 66 | 281 => 67 | 282 => 68 | 287 => 74 | 316 => 75 | 171 => 44 | 205 => 76 | 321 => 82 | 322 => 83 | 243 => 52 | 246 => 61 | 283 => 70 | 284 => 71 | 285 => 72 | 286 => 73 | 129 => 78 | 317 => 77 | 318 => 79 | 319 => 80 | 320 => 81 | 337 => 84 | 338 => 85 | n => n, fun | 9 => 9 | 3 => 3 | 75 => 84 | 76 => 85 | 4 => 4 | 5 => 5 | 167 => 96 | 37 => 36 | 0 => 0 | 85 => 97 | 2 => 2 | 168 => 99 | 53 => 104 | 175 => 109 | 46 => 111 | 210 => 113 | 127 => 122 | 145 => 125 | 143 => 123 | 21 => 21 | 171 => 103 | 173 => 107 | 212 => 116 | 51 => 117 | 20 => 20 | 213 => 118 | 232 => 127 | 233 => 128 | 80 => 45 | n => n, fun | 15 => 1 | 16 => 2 | 17 => 3 | 18 => 4 | 19 => 5 | n => n⟩
theorem Tryd.laysC172 : Go.Proofs.LaysC.n172 Tryd.prog Tryd.laysC172_ren := {
  mixed := by kernel_rfl
  f129 := Tryd.func78.trans (congrArg some (by kernel_rfl))
  f171 := Tryd.func44.trans (congrArg some (by kernel_rfl))
  f172 := Tryd.func50.trans (congrArg some (by kernel_rfl))
  f205 := Tryd.func76.trans (congrArg some (by kernel_rfl))
  f243 := Tryd.func52.trans (congrArg some (by kernel_rfl))
  f244 := Tryd.func58.trans (congrArg some (by kernel_rfl))
  f245 := Tryd.func59.trans (congrArg some (by kernel_rfl))
  f246 := Tryd.func61.trans (congrArg some (by kernel_rfl))
  f247 := Tryd.func64.trans (congrArg some (by kernel_rfl))
  f279 := Tryd.func65.trans (congrArg some (by kernel_rfl))
  f280 := Tryd.func66.trans (congrArg some (by kernel_rfl))
  f281 := Tryd.func67.trans (congrArg some (by kernel_rfl))
  f282 := Tryd.func68.trans (congrArg some (by kernel_rfl))
  f283 := Tryd.func70.trans (congrArg some (by kernel_rfl))
  f284 := Tryd.func71.trans (congrArg some (by kernel_rfl))
  f285 := Tryd.func72.trans (congrArg some (by kernel_rfl))
  f286 := Tryd.func73.trans (congrArg some (by kernel_rfl))
  f287 := Tryd.func74.trans (congrArg some (by kernel_rfl))
  f316 := Tryd.func75.trans (congrArg some (by kernel_rfl))
  f317 := Tryd.func77.trans (congrArg some (by kernel_rfl))
  f318 := Tryd.func79.trans (congrArg some (by kernel_rfl))
  f319 := Tryd.func80.trans (congrArg some (by kernel_rfl))
  f320 := Tryd.func81.trans (congrArg some (by kernel_rfl))
  f321 := Tryd.func82.trans (congrArg some (by kernel_rfl))
  f322 := Tryd.func83.trans (congrArg some (by kernel_rfl))
  f337 := Tryd.func84.trans (congrArg some (by kernel_rfl))
  f338 := Tryd.func85.trans (congrArg some (by kernel_rfl))
  t0 := Tryd.underlying0
  a0 := Tryd.isAgg0
  z0 := Tryd.sizeOf0
  v0 := Tryd.zeroValue0
  t2 := Tryd.underlying2
  a2 := Tryd.isAgg2
  z2 := Tryd.sizeOf2
  v2 := Tryd.zeroValue2
  t3 := Tryd.underlying3
  a3 := Tryd.isAgg3
  z3 := Tryd.sizeOf3
  v3 := Tryd.zeroValue3
  t4 := Tryd.underlying4
  a4 := Tryd.isAgg4
  z4 := Tryd.sizeOf4
  v4 := Tryd.zeroValue4
  t5 := Tryd.underlying5
  a5 := Tryd.isAgg5
  z5 := Tryd.sizeOf5
  v5 := Tryd.zeroValue5
  t9 := Tryd.underlying9
  a9 := Tryd.isAgg9
  z9 := Tryd.sizeOf9
  v9 := Tryd.zeroValue9
  t20 := Tryd.underlying20
  a20 := Tryd.isAgg20
  z20 := Tryd.sizeOf20
  v20 := Tryd.zeroValue20
  t21 := Tryd.underlying21
  a21 := Tryd.isAgg21
  z21 := Tryd.sizeOf21
  v21 := Tryd.zeroValue21
  t37 := Tryd.underlying36
  a37 := Tryd.isAgg36
  z37 := Tryd.sizeOf36
  v37 := Tryd.zeroValue36
  t46 := Tryd.underlying111
  a46 := Tryd.isAgg111
  z46 := Tryd.sizeOf111
  v46 := Tryd.zeroValue111
  t51 := Tryd.underlying117
  a51 := Tryd.isAgg117
  z51 := Tryd.sizeOf117
  v51 := Tryd.zeroValue117
  t53 := Tryd.underlying104
  a53 := Tryd.isAgg104
  z53 := Tryd.sizeOf104
  v53 := Tryd.zeroValue104
  t75 := Tryd.underlying84
  a75 := Tryd.isAgg84
  z75 := Tryd.sizeOf84
  v75 := Tryd.zeroValue84
  t76 := Tryd.underlying85
  a76 := Tryd.isAgg85
  z76 := Tryd.sizeOf85
  v76 := Tryd.zeroValue85
  t85 := Tryd.underlying97
  a85 := Tryd.isAgg97
  z85 := Tryd.sizeOf97
  v85 := Tryd.zeroValue97
  t127 := Tryd.underlying122
  a127 := Tryd.isAgg122
  z127 := Tryd.sizeOf122
  v127 := Tryd.zeroValue122
  t143 := Tryd.underlying123
  a143 := Tryd.isAgg123
  z143 := Tryd.sizeOf123
  v143 := Tryd.zeroValue123
  t145 := Tryd.underlying125
  a145 := Tryd.isAgg125
  z145 := Tryd.sizeOf125
  v145 := Tryd.zeroValue125
  t167 := Tryd.underlying96
  a167 := Tryd.isAgg96
  z167 := Tryd.sizeOf96
  v167 := Tryd.zeroValue96
  t168 := Tryd.underlying99
  a168 := Tryd.isAgg99
  z168 := Tryd.sizeOf99
  v168 := Tryd.zeroValue99
  t171 := Tryd.underlying103
  a171 := Tryd.isAgg103
  z171 := Tryd.sizeOf103
  v171 := Tryd.zeroValue103
  t173 := Tryd.underlying107
  a173 := Tryd.isAgg107
  z173 := Tryd.sizeOf107
  v173 := Tryd.zeroValue107
  t175 := Tryd.underlying109
  a175 := Tryd.isAgg109
  z175 := Tryd.sizeOf109
  v175 := Tryd.zeroValue109
  t210 := Tryd.underlying113
  a210 := Tryd.isAgg113
  z210 := Tryd.sizeOf113
  v210 := Tryd.zeroValue113
  t212 := Tryd.underlying116
  a212 := Tryd.isAgg116
  z212 := Tryd.sizeOf116
  v212 := Tryd.zeroValue116
  t213 := Tryd.underlying118
  a213 := Tryd.isAgg118
  z213 := Tryd.sizeOf118
  t232 := Tryd.underlying127
  a232 := Tryd.isAgg127
  z232 := Tryd.sizeOf127
  v232 := Tryd.zeroValue127
  t233 := Tryd.underlying128
  a233 := Tryd.isAgg128
  z233 := Tryd.sizeOf128
  v233 := Tryd.zeroValue128
  g15 := by kernel_rfl
  g16 := by kernel_rfl
  g17 := by kernel_rfl
  g18 := by kernel_rfl
  g19 := by kernel_rfl
  t80 := Tryd.underlying45
  a80 := Tryd.isAgg45
  z80 := Tryd.sizeOf45
  v80 := Tryd.zeroValue45
  i0 := by kernel_rfl
  i2 := by kernel_rfl
  i3 := by kernel_rfl
  i4 := by kernel_rfl
  i5 := by kernel_rfl
  i9 := by kernel_rfl
  i20 := by kernel_rfl
  i21 := by kernel_rfl
  i37 := by kernel_rfl
  i46 := by kernel_rfl
  i51 := by kernel_rfl
  i53 := by kernel_rfl
  i75 := by kernel_rfl
  i76 := by kernel_rfl
  i80 := by kernel_rfl
  i85 := by kernel_rfl
  i127 := by kernel_rfl
  i143 := by kernel_rfl
  i145 := by kernel_rfl
  i167 := by kernel_rfl
  i168 := by kernel_rfl
  i171 := by kernel_rfl
  i173 := by kernel_rfl
  i175 := by kernel_rfl
  i210 := by kernel_rfl
  i212 := by kernel_rfl
  i232 := by kernel_rfl
  i233 := by kernel_rfl
  m15 := by kernel_rfl
  m16 := by kernel_rfl
  m17 := by kernel_rfl
  m18 := by kernel_rfl
  m19 := by kernel_rfl
  c0 := by kernel_rfl
  c2 := by kernel_rfl
  c3 := by kernel_rfl
  c4 := by kernel_rfl
  c5 := by kernel_rfl
  c9 := by kernel_rfl
  c20 := by kernel_rfl
  c21 := by kernel_rfl
  c37 := by kernel_rfl
  c46 := by kernel_rfl
  c51 := by kernel_rfl
  c53 := by kernel_rfl
  c75 := by kernel_rfl
  c76 := by kernel_rfl
  c80 := by kernel_rfl
  c85 := by kernel_rfl
  c127 := by kernel_rfl
  c143 := by kernel_rfl
  c145 := by kernel_rfl
  c167 := by kernel_rfl
  c168 := by kernel_rfl
  c171 := by kernel_rfl
  c173 := by kernel_rfl
  c175 := by kernel_rfl
  c210 := by kernel_rfl
  c212 := by kernel_rfl
  c213 := by kernel_rfl
  c232 := by kernel_rfl
  c233 := by kernel_rfl }
open Go.RowKit in
/-- strconv.Atoi, AT EVERY STRING THAT SPELLS AN int ('Lib.atoiAll .. = .ok v'; of whatever length: leading zeros count): v, AND NO ERROR. The world: as it was, or with the one new row that '[]byte(..)' lays. (LAID: no walk: one application.) -/
theorem Tryd.strconv_Atoi_ok (s : ByteArray) (hmax : s.size ≤ 9223372036854775806) (v : Int) (h : Lib.atoiAll s.data.toList = .ok v) (w : World) :
    Calls Tryd.prog 50 #[.string s] w fun e w' => e = .returned (.tuple #[.int .i64 v, .nilIface]) ∧ (w' = w ∨ ∃ t, w' = Lib.bytesWorld w 5 t) := Any.strconv_Atoi_ok Tryd.laysC172 s hmax v h w
open Go.RowKit in
theorem Tryd.strconv_Atoi_syntax (s : ByteArray) (hlim : s.size ≤ 281474976710656) (h0 : ∀ v, Lib.atoiAll s.data.toList ≠ .ok v) (h1 : Lib.atoiAll s.data.toList ≠ .range) (ev : Value) (w : World) (hv : w.cell? ⟨1, 0, none⟩ = some ev) (hev : ev = .nilIface ∨ ∃ te pe, ev = .iface te pe) :
    Calls Tryd.prog 50 #[.string s] w fun e w' => ∃ N, e = .returned (.tuple #[.int .i64 (0), .iface 99 (.pointer (some ⟨N, 0, none⟩))]) ∧ w.heap.size ≤ N ∧ w'.heap[N]? = some (.cells #[.string ⟨#[65, 116, 111, 105]⟩, .string s, ev] 113 (0, 0)) ∧ Below w.heap.size w w' := by
  cases h : Lib.atoiAll s.data.toList with
  | ok v => exact absurd h (h0 v)
  | range => exact absurd h h1
  | _ => exact Any.strconv_Atoi_syntax Tryd.laysC172 s hlim h ev w hv hev
open Go.RowKit in
/-- strconv.Atoi, AT EVERY NUMERAL THAT NO int HOLDS ('.range'): THE GREATEST OR THE LEAST int, BY THE SIGN ('Lib.atoiSat'), AND AN ERROR THAT IS NOT nil: a *NumError in a new block N: {Func: "Atoi", Num: s's bytes, Err: what the variable ErrRange holds}. Of what was there nothing has turned. (LAID: no walk: one application.) -/
theorem Tryd.strconv_Atoi_range (s : ByteArray) (hlim : s.size ≤ 281474976710656) (h : Lib.atoiAll s.data.toList = .range) (ev : Value) (w : World) (hv : w.cell? ⟨2, 0, none⟩ = some ev) (hev : ev = .nilIface ∨ ∃ te pe, ev = .iface te pe) :
    Calls Tryd.prog 50 #[.string s] w fun e w' => ∃ N, e = .returned (.tuple #[.int .i64 (Lib.atoiSat s.data.toList), .iface 99 (.pointer (some ⟨N, 0, none⟩))]) ∧ w.heap.size ≤ N ∧ w'.heap[N]? = some (.cells #[.string ⟨#[65, 116, 111, 105]⟩, .string s, ev] 113 (0, 0)) ∧ Below w.heap.size w w' := Any.strconv_Atoi_range Tryd.laysC172 s hlim h ev w hv hev
end Go.Proofs
end
section
namespace Go.Proofs.YtfgibalcdjlnhaaDoor
open Go.RowKit

theorem repD_val {w : World} {Pr : Prot} {u v : Value} (h : RepD w Pr v (.val u)) : v = u := by
  cases h
  rfl
theorem pure_vals {f : FuncId} {us : List Value} {Post : D → Prop} (hf : FnOk f) (h : ∀ w Pr, (∀ b o, Pr b o → b < w.heap.size) → EnvOk w Pr → Calls Tryd.prog f us.toArray w (PostR w Pr Post)) : PureC f (us.map D.val) Post := by
  refine ⟨hf, fun w Pr vs h1 h2 h3 h4 => ?_⟩
  have e : vs = us := by
    apply List.ext_getElem?
    intro i
    have hl : vs.length = us.length := by simpa using h3
    by_cases hi : i < vs.length
    · have := h4 i vs[i] (.val us[i]) (List.getElem?_eq_getElem hi) (by simp [List.getElem?_eq_getElem (show i < us.length by omega)])
      rw [List.getElem?_eq_getElem hi, List.getElem?_eq_getElem (by omega), repD_val this]
    · rw [List.getElem?_eq_none (by omega), List.getElem?_eq_none (by omega)]
  subst e
  exact h w Pr h1 h2
def itoaB (n : Int) : ByteArray := ⟨(Lib.itoa n).toArray⟩
theorem itoa_any (n : Int) (h0 : -9223372036854775808 ≤ n) (h1 : n ≤ 9223372036854775807) : PureC 44 [.int n] (· = .str (itoaB n)) := by
  refine pure_vals (us := [.int .i64 n]) ⟨_, Tryd.func44, by decide, rfl⟩ (fun w Pr _ hE => ?_)
  have ht : Lib.TabIs Tryd.prog w "internal/strconv.uint64pow10" .u64 Lib.pow10Tab := tab_of hE (by unfold laidG; exact List.mem_cons_self) (by kernel_rfl) (by decide)
  refine (Tryd.strconv_Itoa n h0 h1 w ht).mono fun e w' ⟨he, k, os, hw⟩ => ?_
  subst hw
  exact ⟨_, _, he, rfl, .val _, Lib.below_grow _ _ (Nat.le_refl _) k os⟩
theorem indexbyte_any (s : ByteArray) (c : Int) : PureC 49 [.str s, .val (.int .u8 c)] (· = .int (Lib.indexByte s.data.toList c.toNat.toUInt8)) := by
  refine pure_vals (us := [.string s, .int .u8 c]) ⟨_, Tryd.func49, by decide, rfl⟩ (fun w Pr _ _ => ?_)
  refine (Tryd.strings_IndexByte s c w).mono fun e w' ⟨he, hw⟩ => ?_
  subst hw
  exact ⟨_, _, he, rfl, .val _, Below.refl _ _⟩
theorem rep_two {w : World} {Pr : Prot} {u v : Value} {x y : D} (hu : RepD w Pr u x) (hv : RepD w Pr v y) : RepD w Pr (.tuple #[u, v]) (.tup [x, y]) := by
  refine .tup [u, v] _ rfl (fun i v d h1 h2 => ?_)
  match i with
  | 0 => cases h1; cases h2; exact hu
  | 1 => cases h1; cases h2; exact hv
theorem cutprefix_any (s p : ByteArray) : PureC 51 [.str s, .str p] (· = .tup [.str ⟨(Lib.trimPrefix s.data.toList p.data.toList).toArray⟩, .bool (Lib.hasPrefix s.data.toList p.data.toList)]) := by
  refine pure_vals (us := [.string s, .string p]) ⟨_, Tryd.func51, by decide, rfl⟩ (fun w Pr _ _ => ?_)
  refine (Tryd.strings_CutPrefix s p w).mono fun e w' ⟨he, hw⟩ => ?_
  subst hw
  exact ⟨_, _, he, rfl, rep_two (.val _) (.val _), Below.refl _ _⟩
/-- Atoi: the number and no error, or some number and an error -/
def AtoiD (s : ByteArray) (r : D) : Prop := match Lib.atoiAll s.data.toList with
  | .ok v => r = .tup [.int v, .val .nilIface]
  | _ => ∃ n, r = .tup [.int n, .err]
theorem err_var {w : World} {Pr : Prot} (hE : EnvOk w Pr) {g : Nat} (hm : (g, [D.err]) ∈ laidG) : ∃ ev, w.cell? ⟨g, 0, none⟩ = some ev ∧ (ev = .nilIface ∨ ∃ te pe, ev = .iface te pe) := by
  obtain ⟨u, h1, _, h3⟩ := (hE g _ hm).1 0 .err rfl
  cases h3
  exact ⟨_, h1, .inr ⟨_, _, rfl⟩⟩
theorem atoi_any (s : ByteArray) (hs : s.size ≤ 281474976710656) : PureC 50 [.str s] (AtoiD s) := by
  refine pure_vals (us := [.string s]) ⟨_, Tryd.func50, by decide, rfl⟩ (fun w Pr _ hE => ?_)
  cases h : Lib.atoiAll s.data.toList with
  | ok v =>
    refine (Tryd.strconv_Atoi_ok s (by omega) v h w).mono fun e w' ⟨he, hw⟩ => ?_
    refine ⟨_, _, he, by unfold AtoiD; rw [h], rep_two (.val _) (.val _), ?_⟩
    rcases hw with rfl | ⟨t, rfl⟩
    · exact Below.refl _ _
    · exact Lib.bytesWorld_below _ _ _
  | range =>
    obtain ⟨ev, h1, h2⟩ := err_var hE (g := 2) (by unfold laidG; exact List.mem_cons_of_mem _ (List.mem_cons_of_mem _ List.mem_cons_self))
    refine (Tryd.strconv_Atoi_range s hs h ev w h1 h2).mono fun e w' ⟨N, he, _, _, hb⟩ => ?_
    exact ⟨_, _, he, by unfold AtoiD; rw [h]; exact ⟨_, rfl⟩, rep_two (.val _) (.err _ _), hb⟩
  | _ =>
    obtain ⟨ev, h1, h2⟩ := err_var hE (g := 1) (by unfold laidG; exact List.mem_cons_of_mem _ List.mem_cons_self)
    refine (Tryd.strconv_Atoi_syntax s hs (fun v hv => by rw [hv] at h; cases h) (fun hv => by rw [hv] at h; cases h) ev w h1 h2).mono fun e w' ⟨N, he, _, _, hb⟩ => ?_
    exact ⟨_, _, he, by unfold AtoiD; rw [h]; exact ⟨_, rfl⟩, rep_two (.val _) (.err _ _), hb⟩
theorem errT : ∃ ms, Tryd.prog.underlying 84 = some (.interface ms) := ⟨_, Tryd.underlying84⟩
section
variable {E : Entry} {sl : Slots} {ob : Objs} {d : Option Nat} {t ty T : TypeId} {p : String} {af : Array Edge} {g : Option (Nat × Bool)} {x : Operand}
theorem y_errneq (hx : ev sl x = .d .err) (ht : ∃ ms, Tryd.prog.underlying t = some (.interface ms)) : Y E ⟨d, .binOp .neq t x (.const .nilIface) ty, T, p, af, g⟩ sl ob (.d (.val (.bool true))) := fun a w Pr β κ h => by
  have hv := good_rep h hx
  generalize hav : a.eval x = v at hv
  cases hv with
  | err te u =>
    obtain ⟨ms, ht⟩ := ht
    have hc : a.eval (.const Value.nilIface) = Value.nilIface := rfl
    refine ⟨_, .d _ _ (.val _), fun w' _ => ?_⟩
    have h1 : (Op.equalIn Op.maxDepth t (.iface te u) .nilIface).run Tryd.prog w' = .ok false w' := by
      have : ∀ d : Nat, (Op.equalIn (d + 1) t (.iface te u) .nilIface).run Tryd.prog w' = .ok false w' := fun d => by simp [Op.equalIn, run_underlying ht]
      exact this 9999
    simp [execOp, hav, hc, eqGuard_at_iface, binOp, Op.equal, h1]
theorem y_nilneq (hx : ev sl x = .d (.val .nilIface)) (ht : ∃ ms, Tryd.prog.underlying t = some (.interface ms)) : Y E ⟨d, .binOp .neq t x (.const .nilIface) ty, T, p, af, g⟩ sl ob (.d (.val (.bool false))) := fun a w Pr β κ h => by
  obtain ⟨ms, ht⟩ := ht
  have hc : a.eval (.const Value.nilIface) = Value.nilIface := rfl
  refine ⟨_, .d _ _ (.val _), fun w' _ => ?_⟩
  have h1 : (Op.equalIn Op.maxDepth t .nilIface .nilIface).run Tryd.prog w' = .ok true w' := by
    have : ∀ d : Nat, (Op.equalIn (d + 1) t .nilIface .nilIface).run Tryd.prog w' = .ok true w' := fun d => by simp [Op.equalIn, run_underlying ht]
    exact this 9999
  simp [execOp, good_val h hx, hc, eqGuard_nil_constR, binOp, Op.equal, h1]
end
end Go.Proofs.YtfgibalcdjlnhaaDoor
end
