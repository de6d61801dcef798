/-
  Maps over abstract states: look-up, update, making, deleting, ranging. Conditions: none.
-/
import Derived.Maps.RangeRun
import Derived.Maps.Keyed
import Derived.Lib.SliceRun
import Derived.Laws.Cover3
import Derived.Test.YtfgibalcdjlnhaaGreatDoorMag
namespace Go.Proofs.YtfgibalcdjlnhaaGreatDoor
open Go.RowKit Go.ChangeMaps

/-- a key, as a value -/
def keyL : List D → Option (List Value)
  | [] => some []
  | .val v :: l => (keyL l).map (v :: ·)
  | _ :: _ => none
def keyV : V → Option Value
  | .d (.val v) => some v
  | .d (.agg l) => (keyL l).map fun cs => .agg cs.toArray
  | _ => none
theorem keyL_rep {w : World} {Pr : Prot} : ∀ {l : List D} {cs r : List Value}, keyL l = some r → cs.length = l.length → (∀ (i : Nat) (v : Value) (d : D), cs[i]? = some v → l[i]? = some d → RepD w Pr v d) → cs = r
  | [], [], r, h, _, _ => by cases h; rfl
  | [], _ :: _, _, _, hl, _ => by simp at hl
  | _ :: _, [], _, _, hl, _ => by simp at hl
  | d :: l, v :: cs, r, h, hl, hd => by
    cases d with
    | val u =>
      simp only [keyL, Option.map_eq_some_iff] at h
      obtain ⟨q, hq, rfl⟩ := h
      rw [keyL_rep hq (by simpa using hl) (fun i v d h1 h2 => hd (i + 1) v d h1 h2)]
      cases hd 0 v _ rfl rfl
      rfl
    | list s l => cases h
    | agg l => cases h
    | tup l => cases h
    | err => cases h
theorem keyV_rep {w : World} {Pr : Prot} {β : Nat → Value} {κ : Nat → Nat} {v u : Value} {x : V} (h : RepV w Pr β κ v x) (hk : keyV x = some u) : v = u := by
  cases h with
  | d v x h =>
    cases h with
    | val v => cases hk; rfl
    | agg cs l hl hd =>
      simp only [keyV, Option.map_eq_some_iff] at hk
      obtain ⟨r, hr, rfl⟩ := hk
      rw [keyL_rep hr hl hd]
    | nil A c s hm => cases hk
    | list b o n c s l u hn hs hc hm hr hd => cases hk
    | tup cs l hl hd => cases hk
    | err t u => cases hk
  | _ => cases hk
/-- a key that comes out of a map -/
def keyD : Value → D
  | .agg cs => .agg (cs.toList.map D.val)
  | v => .val v
theorem keyD_rep (w : World) (Pr : Prot) (v : Value) : RepD w Pr v (keyD v) := by
  cases v with
  | agg cs =>
    simp only [keyD]
    have := RepD.agg (w := w) (Pr := Pr) cs.toList (cs.toList.map D.val) (by simp) (fun i v d h1 h2 => by
      rw [List.getElem?_map, h1] at h2
      cases h2
      exact .val _)
    simpa using this
  | _ => exact .val _

/-- What the rules need of a map's type: its keys' and its elements', and an element that is not there. -/
structure MapT (t kt et : TypeId) (z : D) (zv : Value) : Prop where
  u : Tryz.prog.underlying t = some (.map kt et)
  K : Maps.Keyed Tryz.prog kt
  zero : ∀ w, (zeroValue et).run Tryz.prog w = .ok zv w
  zr : ∀ w Pr, RepD w Pr zv z
abbrev ME := Nat × Value × D
inductive Hit (l : List ME) (k : Value) (z : D) : D → Bool → Prop where
  | yes (j n : Nat) (d : D) (h : l[j]? = some (n, k, d)) : Hit l k z d true
  | no (h : ∀ q ∈ l, q.2.1 ≠ k) : Hit l k z z false
/-- an entry is set -/
inductive Put (c : Nat) (l : List ME) (k : Value) (d : D) : Nat → List ME → Prop where
  | old (j n : Nat) (d0 : D) (h : l[j]? = some (n, k, d0)) : Put c l k d c (l.set j (n, k, d))
  | new (h : ∀ q ∈ l, q.2.1 ≠ k) : Put c l k d (c + 1) (l ++ [(c, k, d)])
inductive Del (l : List ME) (k : Value) : List ME → Prop where
  | old (j n : Nat) (d0 : D) (h : l[j]? = some (n, k, d0)) : Del l k (l.eraseIdx j)
  | no (h : ∀ q ∈ l, q.2.1 ≠ k) : Del l k l

def Ents (es : List MapEntry) (l : List ME) : Prop := es.map (fun x => (x.born, x.key)) = l.map (fun q => (q.1, q.2.1))
theorem Ents.len {es : List MapEntry} {l : List ME} (h : Ents es l) : es.length = l.length := by have := congrArg List.length h; simpa using this
theorem Ents.get {es : List MapEntry} {l : List ME} (h : Ents es l) {j : Nat} {q : ME} (hj : l[j]? = some q) : ∃ x, es[j]? = some x ∧ x.born = q.1 ∧ x.key = q.2.1 := by
  have h1 : (es.map (fun x => (x.born, x.key)))[j]? = some (q.1, q.2.1) := by rw [h, List.getElem?_map, hj]; rfl
  rw [List.getElem?_map, Option.map_eq_some_iff] at h1
  obtain ⟨x, hx, e⟩ := h1
  simp only [Prod.mk.injEq] at e
  exact ⟨x, hx, e.1, e.2⟩
theorem Ents.put {es : List MapEntry} {l : List ME} (h : Ents es l) {j : Nat} {x : MapEntry} (hj : es[j]? = some x) : ∃ q, l[j]? = some q ∧ x.born = q.1 ∧ x.key = q.2.1 := by
  have h1 : (l.map (fun q => (q.1, q.2.1)))[j]? = some (x.born, x.key) := by rw [← h, List.getElem?_map, hj]; rfl
  rw [List.getElem?_map, Option.map_eq_some_iff] at h1
  obtain ⟨q, hq, e⟩ := h1
  simp only [Prod.mk.injEq] at e
  exact ⟨q, hq, e.1.symm, e.2.symm⟩
theorem nodup_one {α β : Type} {f : α → β} {l : List α} (h : (l.map f).Nodup) {i j : Nat} {a b : α} (hi : l[i]? = some a) (hj : l[j]? = some b) (e : f a = f b) : i = j := by
  refine (List.getElem?_inj (l := l.map f) (by rw [List.length_map]; exact (List.getElem?_eq_some_iff.1 hi).1) h).1 ?_
  rw [List.getElem?_map, List.getElem?_map, hi, hj, Option.map_some, Option.map_some, e]

section
variable {t kt et : TypeId} {z : D} {zv : Value}
theorem KeyOk.lit (M : MapT t kt et z zv) {k : Value} (h : KeyOk t k) : ∃ lit, keyOf Tryz.prog kt k = some lit := by
  obtain ⟨kt', et', lit, h1, h2⟩ := h
  rw [M.u] at h1
  cases h1
  exact ⟨lit, h2⟩
theorem KeyOk.of (M : MapT t kt et z zv) {k : Value} {lit : Lit} (h : keyOf Tryz.prog kt k = some lit) : KeyOk t k := ⟨kt, et, lit, M.u, h⟩
theorem map_find {es : List MapEntry} {l : List ME} {clock : Nat} {k : Value} (h : Ents es l) (hok : MapOk t clock l) (M : MapT t kt et z zv) (hk : KeyOk t k) (w : World) :
    ((Instr.findKey kt k es).run Tryz.prog w = .ok none w ∧ ∀ q ∈ l, q.2.1 ≠ k) ∨
    ∃ (j : Nat) (x : MapEntry) (q : ME), (Instr.findKey kt k es).run Tryz.prog w = .ok (some (j, x.val)) w ∧ es[j]? = some x ∧ l[j]? = some q ∧ q.2.1 = k ∧ x.key = k ∧ x.born = q.1 := by
  obtain ⟨lit, hlit⟩ := hk.lit M
  rcases M.K.find w hlit es (fun e he => by
    obtain ⟨j, hj⟩ := List.mem_iff_getElem?.1 he
    obtain ⟨q, hq, _, h2⟩ := h.put hj
    rw [h2]
    exact (hok.ok q (List.mem_of_getElem? hq)).lit M) with ⟨h1, h2⟩ | ⟨j, x, h1, h2, h3⟩
  · refine .inl ⟨h1, fun q hq e => ?_⟩
    obtain ⟨j, hj⟩ := List.mem_iff_getElem?.1 hq
    obtain ⟨x, hx, _, h4⟩ := h.get hj
    exact h2 x (List.mem_of_getElem? hx) (h4.trans e)
  · obtain ⟨q, hq, h4, h5⟩ := h.put h2
    exact .inr ⟨j, x, q, h1, h2, hq, h5.symm.trans h3, h3, h4⟩
/-- the same, where it is known what is there -/
theorem map_hit {es : List MapEntry} {l : List ME} {clock : Nat} {k : Value} (h : Ents es l) (hok : MapOk t clock l) (M : MapT t kt et z zv) (hk : KeyOk t k) {j n : Nat} {d : D} (hj : l[j]? = some (n, k, d)) :
    ∃ x, es[j]? = some x ∧ x.born = n ∧ x.key = k ∧ ∀ w, (Instr.findKey kt k es).run Tryz.prog w = .ok (some (j, x.val)) w := by
  obtain ⟨x, hx, h1, h2⟩ := h.get hj
  refine ⟨x, hx, h1, h2, fun w => ?_⟩
  rcases map_find h hok M hk w with ⟨_, h4⟩ | ⟨j', x', q', h3, h4, h5, h6, _⟩
  · exact absurd rfl (h4 _ (List.mem_of_getElem? hj))
  · obtain rfl : j' = j := nodup_one hok.keys h5 hj h6
    rw [hx] at h4
    cases h4
    exact h3
theorem map_miss {es : List MapEntry} {l : List ME} {clock : Nat} {k : Value} (h : Ents es l) (hok : MapOk t clock l) (M : MapT t kt et z zv) (hk : KeyOk t k) (hn : ∀ q ∈ l, q.2.1 ≠ k) (w : World) : (Instr.findKey kt k es).run Tryz.prog w = .ok none w := by
  rcases map_find h hok M hk w with ⟨h3, _⟩ | ⟨j', x', q', _, _, h5, h6, _⟩
  · exact h3
  · exact absurd h6 (hn _ (List.mem_of_getElem? h5))
variable {E : Entry} {sl : Slots} {ob : Objs} {a : Act} {w : World} {Pr : Prot} {β : Nat → Value} {κ : Nat → Nat}
variable {d : Nat} {dd : Option Nat} {T ty : TypeId} {p : String} {af : Array Edge} {g : Option (Nat × Bool)} {x y c : Operand}
theorem map_at (h : Good E sl ob a w Pr β κ) {i clock : Nat} {l : List ME} (hx : ev sl x = .mp i) (hf : find ob i = some (.map t clock l)) :
    ∃ (b : Nat) (es : List MapEntry), a.eval x = .map (some b) ∧ β i = .map (some b) ∧ w.heap[b]? = some (.map es.toArray clock) ∧ Ents es l ∧ MapOk t clock l ∧
      (∀ (j : Nat) (x : MapEntry) (q : ME), es[j]? = some x → l[j]? = some q → RepD w Pr x.val q.2.2) ∧ (∀ o, ¬ Pr b o) ∧ ∀ w', Kept Pr β ob w w' → w'.heap[b]? = some (.map es.toArray clock) := by
  have hv := good_ev h x
  rw [hx] at hv
  generalize a.eval x = v at hv
  cases hv with
  | mp _ b hb =>
    obtain ⟨b', es, hb', hB, hh, ⟨hes, hok⟩, hr, hno⟩ := h.objs i _ hf
    rw [hb'] at hb
    simp only [Value.map.injEq, Option.some.injEq] at hb
    subst hb
    exact ⟨b', es, rfl, hb', hh, hes, hok, hr, hno, fun w' hk => (hk.objs i _ b' hf (by rw [hb']; rfl)).trans hh⟩
theorem pair_rep {u v : Value} {q r : D} (h1 : RepD w Pr u q) (h2 : RepD w Pr v r) : RepD w Pr (.tuple #[u, v]) (.tup [q, r]) :=
  .tup [u, v] [q, r] rfl (fun i v d h3 h4 => by
    match i with
    | 0 => simp at h3 h4; subst h3 h4; exact h1
    | 1 => simp at h3 h4; subst h3 h4; exact h2
    | i + 2 => simp at h3)
set_option maxRecDepth 20000 in
theorem lookup_any (h : Good E sl ob a w Pr β κ) (M : MapT t kt et z zv) {i clock : Nat} {l : List ME} {k : Value} {r : D} {b : Bool} (hx : ev sl x = .mp i) (hf : find ob i = some (.map t clock l)) (hy : keyV (ev sl y) = some k) (hk : KeyOk t k) (hr : Hit l k z r b) :
    ∃ v, RepD w Pr v r ∧ ∀ w' ok, Kept Pr β ob w w' → (execOp a.eval ⟨dd, .lookup t x y ok, T, p, af, g⟩).run Tryz.prog w' = .ok (.value (if ok then .tuple #[v, .bool b] else v)) w' := by
  obtain ⟨gm, es, hav, hb, hh, hes, hok, hrv, hno, hkept⟩ := map_at h hx hf
  have hkv : a.eval y = k := keyV_rep (good_ev h y) hy
  obtain ⟨lit, hlit⟩ := hk.lit M
  cases hr with
  | yes j n d hj =>
    obtain ⟨e, he, h1, h2, h3⟩ := map_hit hes hok M hk hj
    refine ⟨e.val, hrv j e _ he hj, fun w' ok hk' => ?_⟩
    simp [execOp, hav, hkv, Instr.lookup, run_underlying M.u, MapKept.run_getObj_map (hkept w' hk'), M.K.check w' _ hlit, h3 w', Result.andThen]
  | no hn =>
    refine ⟨zv, M.zr w Pr, fun w' ok hk' => ?_⟩
    simp [execOp, hav, hkv, Instr.lookup, run_underlying M.u, MapKept.run_getObj_map (hkept w' hk'), M.K.check w' _ hlit, map_miss hes hok M hk hn w', M.zero w', Result.andThen]
set_option maxRecDepth 20000 in
theorem y_lookup1 (M : MapT t kt et z zv) {i clock : Nat} {l : List ME} {k : Value} {r : D} {b : Bool} (hx : ev sl x = .mp i) (hf : find ob i = some (.map t clock l)) (hy : keyV (ev sl y) = some k) (hk : KeyOk t k) (hr : Hit l k z r b) :
    Y E ⟨dd, .lookup t x y false, T, p, af, g⟩ sl ob (.d r) := fun a w Pr β κ h => by
  obtain ⟨v, hv, hrun⟩ := lookup_any (dd := dd) (T := T) (p := p) (af := af) (g := g) h M hx hf hy hk hr
  exact ⟨_, .d _ _ hv, fun w' hk' => hrun w' false hk'⟩
/-- An object's block is set anew. -/
theorem Good.setblk (h : Good E sl ob a w Pr β κ) {i b : Nat} {o o' : O} (hf : find ob i = some o) (hb : blk (β i) = some b) {q q0 : Obj} (hno : ∀ q, ¬ Pr b q) (hq : w.heap[b]? = some q0)
    (ho : (∀ (v : Value) (x : V), RepV w Pr β κ v x → RepV (setBlock w b q) Pr β κ v x) → (∀ (v : Value) (x : D), RepD w Pr v x → RepD (setBlock w b q) Pr v x) → RepO (setBlock w b q) Pr 0 β κ i o') : Good E sl ((i, o') :: ob) a (setBlock w b q) Pr β κ := by
  have hother : ∀ b', b' ≠ b → (setBlock w b q).heap[b']? = w.heap[b']? := fun b' hne => (MapKept.heap_set hq).2 b' hne
  have hs : Stays Pr w (setBlock w b q) := fun b' r hr => World.cell?_of_block (a := ⟨b', r, none⟩) (hother b' (by rintro rfl; exact hno r hr))
  have hbo := h.own i o b hf hb
  have hx : Under (fun g => g = b) w (setBlock w b q) := ⟨rfl, rfl, rfl, by simp [setBlock], fun k _ hn => hother k hn⟩
  refine ⟨h.below.then hx (fun g hg => hg ▸ hbo), fun b' r hr => (hs b' r (h.pr0 b' r hr)).trans (h.st0 b' r hr), h.pr0, h.prn, fun b' r hr => by have := h.prl b' r hr; simpa [setBlock] using this, h.size, h.defers, fun j => (h.slots j).keep hs (fun _ _ h => h), fun j oj hj => ?_, fun j k oj ok g hj hk => ?_, fun j oj g hj hg => ?_, h.keeps, h.fresh⟩
  rotate_right 1
  · by_cases hji : j = i
    · subst hji
      exact h.own j o g hf hg
    · exact h.own j oj g (find_other hji hj) hg
  · by_cases hji : j = i
    · subst hji
      rw [find_eq] at hj
      cases hj
      exact ho (fun v x hv => hv.keep hs (fun _ _ h => h)) (fun v x hv => hv.keep hs (fun _ _ h => h))
    · have hj' := find_other hji hj
      refine (h.objs j oj hj').keep hs (fun _ _ h => h) (fun _ _ h => .inl h) (fun g hg => hother g ?_)
      rintro rfl
      exact hji (h.apart j i oj o _ hj' hf hg hb)
  · have key : ∀ m om, find ((i, o') :: ob) m = some om → ∃ om', find ob m = some om' := by
      intro m om hm
      by_cases hmi : m = i
      · exact ⟨o, hmi ▸ hf⟩
      · exact ⟨om, find_other hmi hm⟩
    obtain ⟨oj', hj'⟩ := key j oj hj
    obtain ⟨ok', hk'⟩ := key k ok hk
    exact h.apart j k oj' ok' g hj' hk'
theorem nodup_set {α β : Type} {f : α → β} {l : List α} {j : Nat} {q r : α} (hj : l[j]? = some q) (e : f r = f q) : (l.set j r).map f = l.map f := by
  rw [List.map_set]
  refine List.ext_getElem? fun i => ?_
  rw [List.getElem?_set]
  split
  · rename_i h
    subst h
    have hlt := (List.getElem?_eq_some_iff.1 hj).1
    rw [List.length_map, if_pos hlt, List.getElem?_map, hj, Option.map_some, e]
  · rfl
theorem MapOk.put {clock c' : Nat} {l l' : List ME} {k : Value} {dv : D} (h : MapOk t clock l) (hk : KeyOk t k) (hp : Put clock l k dv c' l') : MapOk t c' l' := by
  cases hp with
  | old j n d0 hj =>
    refine ⟨by rw [nodup_set (f := fun q : ME => q.1) (r := (n, k, dv)) hj rfl]; exact h.nodup, fun q hq => ?_, by rw [nodup_set (f := fun q : ME => q.2.1) (r := (n, k, dv)) hj rfl]; exact h.keys, fun q hq => ?_⟩
    · rcases List.mem_or_eq_of_mem_set hq with hq | rfl
      · exact h.lt q hq
      · exact h.lt (n, k, d0) (List.mem_of_getElem? hj)
    · rcases List.mem_or_eq_of_mem_set hq with hq | rfl
      · exact h.ok q hq
      · exact hk
  | new hn =>
    refine ⟨?_, fun q hq => ?_, ?_, fun q hq => ?_⟩
    · rw [List.map_append, List.nodup_append]
      refine ⟨h.nodup, by simp, fun a ha b hb => ?_⟩
      obtain ⟨q, hq, rfl⟩ := List.mem_map.1 ha
      simp at hb
      have := h.lt q hq
      omega
    · rcases List.mem_append.1 hq with hq | hq
      · have := h.lt q hq
        omega
      · simp at hq
        subst hq
        exact Nat.lt_succ_self _
    · rw [List.map_append, List.nodup_append]
      refine ⟨h.keys, by simp, fun a ha b hb => ?_⟩
      obtain ⟨q, hq, rfl⟩ := List.mem_map.1 ha
      simp at hb
      rw [hb]
      exact hn q hq
    · rcases List.mem_append.1 hq with hq | hq
      · exact h.ok q hq
      · simp at hq
        subst hq
        exact hk
set_option maxRecDepth 20000 in
/-- m[k] = v: what it leaves. -/
theorem mapup_now (h : Good E sl ob a w Pr β κ) (M : MapT t kt et z zv) {i clock c' : Nat} {l l' : List ME} {k : Value} {dv : D} (hx : ev sl x = .mp i) (hf : find ob i = some (.map t clock l)) (hy : keyV (ev sl y) = some k) (hk : KeyOk t k) (hc : ToD ob (ev sl c) dv) (hp : Put clock l k dv c' l') :
    ∃ b q, (execOp a.eval ⟨none, .mapUpdate t x y c, T, p, af, g⟩).run Tryz.prog w = .ok .skip (setBlock w b q) ∧ blk (β i) = some b ∧ (∀ o, ¬ Pr b o) ∧ (∃ q0, w.heap[b]? = some q0) ∧ Good E sl ((i, .map t c' l') :: ob) a (setBlock w b q) Pr β κ := by
  obtain ⟨gm, es, hav, hb, hh, hes, hok, hrv, hno, _⟩ := map_at h hx hf
  have hkv : a.eval y = k := keyV_rep (good_ev h y) hy
  have hcv := toD_rep h hc _ (good_ev h c)
  obtain ⟨lit, hlit⟩ := hk.lit M
  have hbb : blk (β i) = some gm := by rw [hb]; rfl
  have hok' := hok.put hk hp
  cases hp with
  | old j n d0 hj =>
    obtain ⟨e, he, h1, h2, h3⟩ := map_hit hes hok M hk hj
    have hst : (Instr.keyThatStays e.key k).run Tryz.prog w = .ok k w := by rw [h2]; exact M.K.stays w hlit
    have hjl : j < es.length := (List.getElem?_eq_some_iff.1 he).1
    refine ⟨gm, .map (es.set j { e with key := k, val := a.eval c }).toArray clock, ?_, hbb, hno, ⟨_, hh⟩, ?_⟩
    · have hmod : es.toArray.modify j (fun e => { e with key := k, val := a.eval c }) = (es.set j { e with key := k, val := a.eval c }).toArray := by
        apply Array.ext'
        rw [Array.toList_modify]
        simp only [List.toList_toArray]
        refine List.ext_getElem? fun i => ?_
        rw [List.getElem?_modify, List.getElem?_set]
        split
        · rename_i hji
          subst hji
          rw [he]
          rfl
        · simp
      simp only [execOp, hav, hkv, Instr.mapUpdate]
      simp only [Sem.run_bind, run_underlying M.u, Result.andThen, MapKept.run_getObj_map hh, M.K.check w false hlit, h3 w, List.getElem?_toArray, he, Option.map_some, Option.getD_some, hst, MapKept.run_setObj_map _ hh, hmod]
      rfl
    · refine h.setblk hf hbb hno hh (fun _ hkeep => ⟨gm, _, hb, Nat.zero_le _, (MapKept.heap_set hh).1, ⟨?_, hok'⟩, fun j' x q h4 h5 => hkeep _ _ ?_, hno⟩)
      · show Ents _ _
        unfold Ents
        rw [nodup_set (f := fun x : MapEntry => (x.born, x.key)) he (by simp [h2]), nodup_set (f := fun q : ME => (q.1, q.2.1)) (r := (n, k, dv)) hj rfl]
        exact hes
      · by_cases hjj : j = j'
        · subst hjj
          rw [List.getElem?_set_self hjl] at h4
          rw [List.getElem?_set_self (by rw [← hes.len]; exact hjl)] at h5
          cases h4
          cases h5
          exact hcv
        · rw [List.getElem?_set_ne hjj] at h4 h5
          exact hrv j' x q h4 h5
  | new hn =>
    refine ⟨gm, .map (es ++ [({ key := k, val := a.eval c, born := clock } : MapEntry)]).toArray (clock + 1), ?_, hbb, hno, ⟨_, hh⟩, ?_⟩
    · simp only [execOp, hav, hkv, Instr.mapUpdate]
      simp [run_underlying M.u, MapKept.run_getObj_map hh, M.K.check w false hlit, map_miss hes hok M hk hn w, MapKept.run_setObj_map _ hh, Result.andThen, setBlock]
    · refine h.setblk hf hbb hno hh (fun _ hkeep => ⟨gm, _, hb, Nat.zero_le _, (MapKept.heap_set hh).1, ⟨?_, hok'⟩, fun j' x q h4 h5 => hkeep _ _ ?_, hno⟩)
      · show Ents _ _
        unfold Ents
        rw [List.map_append, List.map_append, hes]
        rfl
      · rw [List.getElem?_append] at h4 h5
        rw [← hes.len] at h5
        split at h4
        · rename_i hjj
          rw [if_pos hjj] at h5
          exact hrv j' x q h4 h5
        · rename_i hjj
          rw [if_neg hjj] at h5
          generalize j' - es.length = m at h4 h5
          cases m with
          | zero => simp at h4 h5; subst h4 h5; exact hcv
          | succ m => simp at h4
set_option maxRecDepth 20000 in
theorem st_mapup (M : MapT t kt et z zv) {i clock c' : Nat} {l l' : List ME} {k : Value} {dv : D} (hx : ev sl x = .mp i) (hf : find ob i = some (.map t clock l)) (hy : keyV (ev sl y) = some k) (hk : KeyOk t k) (hc : ToD ob (ev sl c) dv) (hp : Put clock l k dv c' l') :
    Step E ⟨none, .mapUpdate t x y c, T, p, af, g⟩ sl ob sl ((i, .map t c' l') :: ob) := by
  rintro a w ⟨Pr, β, κ, h⟩ K Q hK
  obtain ⟨b, q, hrun, _, _, _, hG⟩ := mapup_now (T := T) (p := p) (af := af) (g := g) h M hx hf hy hk hc hp
  unfold Oper.wp
  rw [hrun, Oper.upon_skip]
  exact hK _ _ ⟨Pr, β, κ, hG⟩
set_option maxRecDepth 20000 in
/-- map[K]V{} -/
theorem st_makemap (hd : d < E.n) (hno : noneOf d sl ob = true) : Step E ⟨some d, .makeMap t none, T, p, af, g⟩ sl ob ((d, .mp d) :: sl) ((d, .map t 0 []) :: ob) := by
  rintro a w ⟨Pr, β, κ, h⟩ K Q hK
  have hrun : (execOp a.eval ⟨some d, .makeMap t none, T, p, af, g⟩).run Tryz.prog w = .ok (.value (.map (some w.heap.size))) (w.alloc (.map #[] 0)) := by
    simp [execOp, Instr.makeMap, newObj, Sem.run]
  unfold Oper.wp
  rw [hrun, Oper.upon_value]
  have hx : Below w.heap.size w (w.alloc (.map #[] 0)) := (Below.refl _ _).alloc (Nat.le_refl _) _
  have hG := h.newobjG (o := .map t 0 []) (x := .mp d) (u := .map (some w.heap.size)) hd hno (Pr' := Pr) (v := .map (some w.heap.size)) hx (fun _ _ h => h) (fun _ _ h => .inl h) (fun g hg => by simp [blk] at hg; omega)
    (fun β' κ' e1 e2 e3 e4 => ⟨w.heap.size, [], e1, Nat.zero_le _, heap_alloc_new w _, ⟨rfl, ⟨by simp, by simp, by simp, by simp⟩⟩, fun j x q h1 h2 => by simp at h1, fun o ho => by have := h.prl _ _ ho; omega⟩)
    (fun β' κ' e1 _ _ _ => .mp d _ e1)
  exact hK _ _ ⟨_, _, _, hG⟩
theorem run_wide (h : Good E sl ob a w Pr β κ) : Good E sl ob a w.drew Pr β κ := h.grow (Below.refl _ _).drew (fun _ _ h => h) (fun _ _ h => .inl h)
theorem MapOk.del {clock : Nat} {l l' : List ME} {k : Value} (h : MapOk t clock l) (hp : Del l k l') : MapOk t clock l' := by
  cases hp with
  | no _ => exact h
  | old j n d0 hj =>
    have hs : (l.eraseIdx j).Sublist l := List.eraseIdx_sublist _ _
    exact ⟨h.nodup.sublist (hs.map _), fun q hq => h.lt q (hs.subset hq), h.keys.sublist (hs.map _), fun q hq => h.ok q (hs.subset hq)⟩
set_option maxRecDepth 20000 in
/-- delete(m, k): what it leaves -/
theorem delete_now (h : Good E sl ob a w Pr β κ) (dd : Option Nat) (M : MapT t kt et z zv) {i clock : Nat} {l l' : List ME} {k : Value} {A : Array TypeId} (hx : ev sl x = .mp i) (hf : find ob i = some (.map t clock l)) (hy : keyV (ev sl y) = some k) (hk : KeyOk t k) (hA : A = #[t, kt]) (hp : Del l k l') :
    ∃ w', (execOp a.eval ⟨dd, .call { callee := .builtin .delete, args := #[x, y], argTypes := A }, T, p, af, g⟩).run Tryz.prog w = .ok (.value (.tuple #[])) w' ∧ Good E sl ((i, .map t clock l') :: ob) a w' Pr β κ := by
  subst hA
  obtain ⟨gm, es, hav, hb, hh, hes, hok, hrv, hno, _⟩ := map_at h hx hf
  have hkv : a.eval y = k := keyV_rep (good_ev h y) hy
  obtain ⟨lit, hlit⟩ := hk.lit M
  have hbb : blk (β i) = some gm := by rw [hb]; rfl
  have hok' := hok.del hp
  have key : ∃ es' : List MapEntry, (execOp a.eval ⟨dd, .call { callee := .builtin .delete, args := #[x, y], argTypes := #[t, kt] }, T, p, af, g⟩).run Tryz.prog w = .ok (.value (.tuple #[])) (setBlock w gm (.map es'.toArray clock)) ∧ Ents es' l' ∧
      ∀ (j : Nat) (x : MapEntry) (q : ME), es'[j]? = some x → l'[j]? = some q → RepD w Pr x.val q.2.2 := by
    cases hp with
    | old j n d0 hj =>
      obtain ⟨e, he, h1, h2, h3⟩ := map_hit hes hok M hk hj
      have hjl : j < es.length := (List.getElem?_eq_some_iff.1 he).1
      have her : es.toArray.eraseIdxIfInBounds j = (es.eraseIdx j).toArray := by
        unfold Array.eraseIdxIfInBounds
        rw [dif_pos (by simpa using hjl)]
        apply Array.ext'
        simp
      refine ⟨es.eraseIdx j, ?_, ?_, fun j' x q h4 h5 => ?_⟩
      · simp [execOp, hav, hkv, resolve, invoke, builtin, Builtin.delete_, run_underlying M.u, MapKept.run_getObj_map hh, M.K.check w _ hlit, h3 w, MapKept.run_setObj_map _ hh, Result.andThen, setBlock, her]
      · show Ents _ _
        unfold Ents
        rw [map_eraseIdx, map_eraseIdx, show es.map (fun x => (x.born, x.key)) = l.map (fun q => (q.1, q.2.1)) from hes]
      · rw [List.getElem?_eraseIdx] at h4 h5
        split at h4
        · rename_i hjj
          rw [if_pos hjj] at h5
          exact hrv _ x q h4 h5
        · rename_i hjj
          rw [if_neg hjj] at h5
          exact hrv _ x q h4 h5
    | no hn =>
      refine ⟨es, ?_, hes, hrv⟩
      simp [execOp, hav, hkv, resolve, invoke, builtin, Builtin.delete_, run_underlying M.u, MapKept.run_getObj_map hh, M.K.check w _ hlit, map_miss hes hok M hk hn w, MapKept.run_setObj_map _ hh, Result.andThen, setBlock]
  obtain ⟨es', hrun, hes', hrv'⟩ := key
  have hG := h.setblk (o' := .map t clock l') hf hbb hno hh (q := .map es'.toArray clock) (fun _ hkeep => ⟨gm, es', hb, Nat.zero_le _, (MapKept.heap_set hh).1, ⟨hes', hok'⟩, fun j x q h4 h5 => hkeep _ _ (hrv' j x q h4 h5), hno⟩)
  exact ⟨_, hrun, hG⟩
set_option maxRecDepth 20000 in
/-- delete(m, k) -/
theorem st_delete (M : MapT t kt et z zv) {i clock : Nat} {l l' : List ME} {k : Value} {A : Array TypeId} (hx : ev sl x = .mp i) (hf : find ob i = some (.map t clock l)) (hy : keyV (ev sl y) = some k) (hk : KeyOk t k) (hA : A = #[t, kt]) (hp : Del l k l') :
    Step E ⟨none, .call { callee := .builtin .delete, args := #[x, y], argTypes := A }, T, p, af, g⟩ sl ob sl ((i, .map t clock l') :: ob) := by
  rintro a w ⟨Pr, β, κ, h⟩ K Q hK
  obtain ⟨w', hrun, hG⟩ := delete_now (T := T) (p := p) (af := af) (g := g) h none M hx hf hy hk hA hp
  unfold Oper.wp
  rw [hrun, Oper.upon_value]
  exact hK _ _ ⟨Pr, β, κ, Good.put' hG rfl⟩
set_option maxRecDepth 20000 in
/-- range m -/
theorem st_range (M : MapT t kt et z zv) {i clock : Nat} {l : List ME} (hx : ev sl x = .mp i) (hf : find ob i = some (.map t clock l)) (hd : d < E.n) (hno : noneOf d sl ob = true) (hdi : d ≠ i) : Step E ⟨some d, .range t x, T, p, af, g⟩ sl ob ((d, .box d 0) :: sl) ((d, .iter (.mp i) clock [] clock) :: ob) := by
  rintro a w ⟨Pr, β, κ, h⟩ K Q hK
  obtain ⟨gm, es, hav, hb, hh, hes, hok, hrv, hnp, _⟩ := map_at h hx hf
  have hrun : (execOp a.eval ⟨some d, .range t x, T, p, af, g⟩).run Tryz.prog w = .ok (.value (.pointer (some ⟨w.heap.size, 0, none⟩))) (w.alloc (.mapIter (some gm) clock #[] clock)) := by
    have := run_range_map (P := Tryz.prog) w t kt et gm es.toArray clock M.u hh
    simp [execOp, hav, this]
  unfold Oper.wp
  rw [hrun, Oper.upon_value]
  have hx' : Below w.heap.size w (w.alloc (.mapIter (some gm) clock #[] clock)) := (Below.refl _ _).alloc (Nat.le_refl _) _
  have hG := h.newobjG (o := .iter (.mp i) clock [] clock) (x := .box d 0) (u := .pointer (some ⟨w.heap.size, 0, none⟩)) hd hno (Pr' := Pr) (v := .pointer (some ⟨w.heap.size, 0, none⟩)) hx' (fun _ _ h => h) (fun _ _ h => .inl h) (fun g hg => by simp [blk] at hg; omega)
    (fun β' κ' e1 e2 e3 e4 => ⟨w.heap.size, gm, e1, Nat.zero_le _, heap_alloc_new w _, .mp i gm ((e3 i hdi.symm).trans hb), fun o ho => by have := h.prl _ _ ho; omega⟩)
    (fun β' κ' e1 _ _ _ => .box d 0 _ e1)
  exact hK _ _ ⟨_, _, _, hG⟩
theorem trip_rep {u v : Value} {q r : D} (h1 : RepD w Pr u q) (h2 : RepD w Pr v r) : RepD w Pr (.tuple #[.bool true, u, v]) (.tup [.bool true, q, r]) :=
  .tup [.bool true, u, v] [D.bool true, q, r] rfl (fun i v d h3 h4 => by
    match i with
    | 0 => simp at h3 h4; subst h3 h4; exact .val _
    | 1 => simp at h3 h4; subst h3 h4; exact h1
    | 2 => simp at h3 h4; subst h3 h4; exact h2
    | i + 3 => simp at h3)
theorem iter_at (h : Good E sl ob a w Pr β κ) {r i since c0 : Nat} {seen : List Nat} (hx : ev sl x = .box r 0) (hr : find ob r = some (.iter (.mp i) since seen c0)) :
    ∃ gr gm, a.eval x = .pointer (some ⟨gr, 0, none⟩) ∧ β r = .pointer (some ⟨gr, 0, none⟩) ∧ w.heap[gr]? = some (.mapIter (some gm) since seen.toArray c0) ∧ β i = .map (some gm) ∧ ∀ o, ¬ Pr gr o := by
  have hv := good_ev h x
  rw [hx] at hv
  generalize a.eval x = v at hv
  cases hv with
  | box _ _ b hb =>
    obtain ⟨b', gm, hb', hB, hh, hv, hno⟩ := h.objs r _ hr
    rw [hb'] at hb
    simp only [Value.pointer.injEq, Option.some.injEq, Addr.mk.injEq, and_true] at hb
    subst hb
    cases hv with
    | mp _ _ hm => exact ⟨b', gm, rfl, hb', hh, hm, hno⟩
set_option maxRecDepth 20000 in
/-- The next entry, whichever comes. -/
theorem al_next {i r since c0 clock : Nat} {seen : List Nat} {l : List ME} {ops : Array Oper} {rest : List Oper} {Q : Exit → Act → World → Prop} (hx : ev sl x = .box r 0) (hr : find ob r = some (.iter (.mp i) since seen c0)) (hf : find ob i = some (.map t clock l)) (hold : ∀ q ∈ l, q.1 < since) (hsc : since ≤ c0) (hd : d < E.n)
    (h0 : (∀ q ∈ l, q.1 ∈ seen) → AL E ops rest Q ((d, .d (.tup [.bool false])) :: sl) ob)
    (h1 : ∀ q ∈ l, q.1 ∉ seen → AL E ops rest Q ((d, .d (.tup [.bool true, keyD q.2.1, q.2.2])) :: sl) ((r, .iter (.mp i) since (seen ++ [q.1]) clock) :: ob)) :
    AL E ops (⟨some d, .next x false, T, p, af, none⟩ :: rest) Q sl ob := by
  refine ⟨fun a w hi => ?_⟩
  obtain ⟨Pr, β, κ, h⟩ := hi
  obtain ⟨gr, gm, hav, hbr, hh, hbm, hno⟩ := iter_at h hx hr
  obtain ⟨gm', es, hbm', hB, hhm, ⟨hes, hok⟩, hrv, hnm⟩ := h.objs i _ hf
  rw [hbm'] at hbm
  simp only [Value.map.injEq, Option.some.injEq] at hbm
  subst hbm
  refine wpList_plain rfl fun K hKK => ?_
  have hes' : Ents es l := hes
  rcases run_next_at (P := Tryz.prog) w T gr gm' since c0 seen.toArray es.toArray clock hh hhm (fun x hx => by
    obtain ⟨j, hj⟩ := List.mem_iff_getElem?.1 hx
    obtain ⟨q, hq, e, _⟩ := hes'.put (by simpa using hj)
    rw [e]
    exact hold q (List.mem_of_getElem? hq)) hsc with ⟨hz, hrun⟩ | ⟨e, he, w1, hal, hrun⟩
  · have hrun2 : (execOp a.eval ⟨some d, .next x false, T, p, af, none⟩).run Tryz.prog w = .ok (.value (.tuple #[.bool false])) w := by simp [execOp, hav, hrun]
    unfold Oper.wp
    rw [hrun2, Oper.upon_value]
    refine hKK _ _ ((h0 fun q hq => ?_).run _ _ ⟨Pr, β, κ, h.put hd (.d _ _ (.tup [.bool false] [D.bool false] rfl (fun i v d h3 h4 => by
      match i with
      | 0 => simp at h3 h4; subst h3 h4; exact .val _
      | i + 1 => simp at h3)))⟩)
    obtain ⟨j, hj⟩ := List.mem_iff_getElem?.1 hq
    obtain ⟨y, hy, e, _⟩ := hes'.get hj
    have := all_seen es.toArray seen.toArray hz y (by simpa using List.mem_of_getElem? hy)
    rw [e] at this
    simpa using this
  · obtain ⟨hem, hens⟩ := mem_left he
    have hem' : e ∈ es := by simpa using hem
    obtain ⟨j, hj⟩ := List.mem_iff_getElem?.1 hem'
    obtain ⟨q, hq, e1, e2⟩ := hes'.put hj
    have hw1 : Good E sl ob a w1 Pr β κ := by
      rcases hal with rfl | rfl
      · exact h
      · exact run_wide h
    have hh1 : w1.heap[gr]? = some (.mapIter (some gm') since seen.toArray c0) := by rcases hal with rfl | rfl <;> exact hh
    have hrun2 : (execOp a.eval ⟨some d, .next x false, T, p, af, none⟩).run Tryz.prog w = .ok (.value (.tuple #[.bool true, e.key, e.val])) (setBlock w1 gr (.mapIter (some gm') since (seen.toArray.push e.born) clock)) := by simp [execOp, hav, hrun]
    unfold Oper.wp
    rw [hrun2, Oper.upon_value]
    have hpush : seen.toArray.push e.born = (seen ++ [q.1]).toArray := by rw [e1]; simp
    rw [hpush]
    have hG := hw1.setblk (o' := .iter (.mp i) since (seen ++ [q.1]) clock) hr (b := gr) (by rw [hbr]; rfl) hno hh1 (q := .mapIter (some gm') since (seen ++ [q.1]).toArray clock) (fun _ _ => ⟨gr, gm', hbr, Nat.zero_le _, (MapKept.heap_set hh1).1, .mp i gm' hbm', hno⟩)
    have hst : Stays Pr w1 (setBlock w1 gr (.mapIter (some gm') since (seen ++ [q.1]).toArray clock)) := fun b' r' hr' => World.cell?_of_block (a := ⟨b', r', none⟩) ((MapKept.heap_set hh1).2 b' (by rintro rfl; exact hno r' hr'))
    have hst0 : Stays Pr w w1 := by rcases hal with rfl | rfl <;> exact fun _ _ _ => rfl
    have hv : RepD (setBlock w1 gr (.mapIter (some gm') since (seen ++ [q.1]).toArray clock)) Pr e.val q.2.2 := ((hrv j e q hj hq).keep hst0 (fun _ _ h => h)).keep hst (fun _ _ h => h)
    have hgo := h1 q (List.mem_of_getElem? hq) (by
      rw [e1] at hens
      simpa using hens)
    exact hKK _ _ (hgo.run _ _ ⟨Pr, β, κ, hG.put hd (.d _ _ (trip_rep (by rw [e2]; exact keyD_rep _ _ _) hv))⟩)
set_option maxRecDepth 20000 in
/-- The entry, read behind the step. -/
theorem y_entry {i r since c0 clock n j : Nat} {seen : List Nat} {l : List ME} {k : Value} {dv : D} (hx : ev sl x = .box r 0) (hr : find ob r = some (.iter (.mp i) since (seen ++ [n]) clock)) (hf : find ob i = some (.map t clock l)) (hj : l[j]? = some (n, k, dv)) :
    Y E ⟨dd, .entry x, T, p, af, g⟩ sl ob (.d (.tup [keyD k, dv])) := fun a w Pr β κ h => by
  have _ := c0
  obtain ⟨gr, gm, hav, hbr, hh, hbm, hno⟩ := iter_at h hx hr
  obtain ⟨gm', es, hbm', hB, hhm, ⟨hes, hok⟩, hrv, hnm⟩ := h.objs i _ hf
  rw [hbm'] at hbm
  simp only [Value.map.injEq, Option.some.injEq] at hbm
  subst hbm
  have hes' : Ents es l := hes
  obtain ⟨e, he, e1, e2⟩ := hes'.get hj
  have e1 : e.born = n := e1
  have e2 : e.key = k := e2
  refine ⟨.tuple #[e.key, e.val], .d _ _ (pair_rep (by rw [e2]; exact keyD_rep _ _ _) (hrv j e _ he hj)), fun w' hk' => ?_⟩
  have hh' : w'.heap[gr]? = some (.mapIter (some gm') since (seen.toArray.push e.born) clock) := by
    rw [(hk'.objs r _ gr hr (by rw [hbr]; rfl)).trans hh, e1]
    simp
  have hhm' := (hk'.objs i _ gm' hf (by rw [hbm']; rfl)).trans hhm
  have hborn : (es.map (·.born)).Nodup := by
    have : es.map (·.born) = l.map (·.1) := by
      have := congrArg (List.map Prod.fst) hes'
      simpa [Function.comp_def] using this
    rw [this]
    exact hok.nodup
  have := run_entry_at (P := Tryz.prog) w' gr gm' since seen.toArray es.toArray clock e hh' hhm' (by simpa using List.mem_of_getElem? he) (by simpa using hborn)
  simp [execOp, hav, this]
end
section
variable {E : Entry} {sl sl0 : Slots} {ob ob0 : Objs} {ops : List Oper} {pl : List (Nat × Bool × Oper)} {Q : Exit → Act → World → Prop} {tail : (World → Prop) → Act → World → Prop} {g : Option (Nat × Bool)} {p : String} {af : Array Edge} {T ty t : TypeId} {d n : Nat}
set_option maxRecDepth 20000 in
/-- An append onto a row that does not stand. -/
theorem am_append {x y : Operand} {i k e es eb : Nat} {ez : Value} {l l2 : List (List D)} {A : Array TypeId} (hw : Want ops sl true g) (hx : ev sl x = .row i k) (hf : find ob i = some (.row e es k l)) (hk0 : find ob0 i = none) (hy : ToD ob (ev sl y) (.list es l2)) (hA : A = #[t, t]) (hT : ti t = .sl e es eb ez)
    (h1 : ∀ q ∈ l2, ∀ z ∈ q, D.one z = true) (hes : 0 < es) (hb : (l.length + l2.length) * eb ≤ 140737488355328) (hm : l.length + l2.length ≤ 140737488355328) (hd : d < E.n)
    (hK : AM E ops tail Q pl ((d, .und) :: sl0) ob0 ((d, .row i (k + 1)) :: sl) ((i, .row e es (k + 1) (l ++ l2)) :: ob)) :
    AM E ops tail Q ((n, false, ⟨some d, .call { callee := .builtin .append, args := #[x, y], argTypes := A }, T, p, af, g⟩) :: pl) sl0 ob0 sl ob := by
  subst hA
  refine ⟨fun a w0 w Pr Pr1 β β1 κ κ1 h0 h hnw => ?_⟩
  refine mix_move (hw.is h) (fun K hKK => ?_)
  obtain ⟨v', w', Pr', β', κ', hrun, hG, hp, hs, e3, e4, hlt, hbs, hgr⟩ := app_now (o := ⟨some d, .call { callee := .builtin .append, args := #[x, y], argTypes := #[t, t] }, T, p, af, g⟩) (l2 := l2) h hf hd (fun xs hown => by
    obtain ⟨hκ, _⟩ := h.objs i _ hf
    have hxv : a.eval x = β1 i := by
      have := good_ev h x
      rw [hx] at this
      exact this.row_inv hκ.symm
    have hyv := toD_rep h hy _ (good_ev h y)
    obtain ⟨v', w', news, hrun, hown', hgr, hoff, hkeep, hnl, hl2, hnr⟩ := run_app (T := T) (κ := κ1) h hown hyv hT h1 hes hb hm
    exact ⟨v', w', news, by simp [execOp, resolve, invoke, builtin, hxv, hrun], hown', hgr, hoff, hkeep, hnl, hl2, hnr⟩)
  unfold Oper.wp
  rw [hrun, Oper.upon_value]
  have hbb : blk (β1 i) = (β1 i).ownBlock := by obtain ⟨_, _, _, q⟩ := hbs; exact ownBlock_blk q
  have hne : ∀ j o, find ob0 j = some o → j ≠ i := fun j o hj q => by rw [q, hk0] at hj; cases hj
  have hkept : Kept Pr β ob0 w0 w' := hnw.kept.trans (Pr1 := Pr1) ⟨hs, fun j o g h2 h3 => by
    have h4 := hnw.sub j o h2
    have hlt := ((h.objs j o h4.1).blkLt g (by rw [h4.2]; exact h3)).2
    refine hgr.block g hlt (fun q => hne j o h2 ?_)
    exact h.apart j i o _ g h4.1 hf (by rw [h4.2]; exact h3) (by rw [hbb]; exact q.symm), hgr.size⟩ hnw.pr
  refine hKK.out _ _ hkept fun _ => ?_
  refine hK.run _ w0 _ Pr Pr' _ _ _ _ (h0.put hd (.und _)) hG ⟨hkept, fun b o ho => hp b o (hnw.pr b o ho), hnw.then_.trans (fun j => ?_), fun j o hj => ?_⟩
  · by_cases hj : j = i
    · subst hj
      exact .inr ⟨hlt, hbs⟩
    · exact .inl ⟨e3 j hj, e4 j hj⟩
  · have h4 := hnw.sub j o hj
    have hji := hne j o hj
    exact ⟨by rw [find_ne hji]; exact h4.1, (e3 j hji).trans h4.2⟩
end
theorem dfill_len {place : Nat → Option (Nat × Nat)} : ∀ {dp : List (Nat × D)} {ds r : List D}, dfill place ds dp = some r → r.length = ds.length
  | [], ds, r, h => by simp only [dfill, Option.some.injEq] at h; rw [h]
  | (i, z) :: dp, ds, r, h => by
    simp only [dfill] at h
    split at h
    · cases h
    · split at h
      · rename_i hc
        rw [dfill_len h]
        simp [putD]
        omega
      · cases h
section
variable {E : Entry} {sl : Slots} {ob : Objs} {a : Act} {w : World} {Pr : Prot} {β : Nat → Value} {κ : Nat → Nat}
variable {d : Nat} {t T ty : TypeId} {p : String} {af : Array Edge} {g : Option (Nat × Bool)} {x y c : Operand}
set_option maxRecDepth 20000 in
theorem litR_now (h : Good E sl ob a w Pr β κ) {parts : List (Nat × Operand)} {dp : List (Nat × D)} {l : List D} {l2 : List (List D)} {e es eb n : Nat} {ez : Value} (hT : ti t = .sl e es eb ez) (hp : PartsD sl ob parts dp) (hl : dfill (fun i => some (i * es, es)) (zerosD es n ez) dp = some l) (hc2 : chunk es n l = l2) (hn : n * es ≤ 1000) (hn2 : n ≤ 1000) (hd : d < E.n) (hno : noneOf d sl ob = true) :
    ∃ v w' Pr', (execOp a.eval ⟨some d, .buildSlice t n parts.toArray, T, p, af, g⟩).run Tryz.prog w = .ok (.value v) w' ∧ Below w.heap.size w w' ∧ (∀ b o, Pr b o → Pr' b o) ∧
      Good E ((d, .row d 0) :: sl) ((d, .row e es 0 l2) :: ob) (a.put (some d) v) w' Pr' (updV β d v) (updN κ d 0) := by
  subst hc2
  obtain ⟨cs, hc, hr⟩ := run_lit h hT hp hl hn
  have hrun : (execOp a.eval ⟨some d, .buildSlice t n parts.toArray, T, p, af, g⟩).run Tryz.prog w = .ok (.value (.slice (some ⟨w.heap.size, 0, none⟩) n n)) (w.alloc (.cells cs.toArray e)) := by
    simp only [execOp, parts_map, Sem.run_bind, hr]
    rfl
  have hx : Below w.heap.size w (w.alloc (.cells cs.toArray e)) := (Below.refl _ _).alloc (Nat.le_refl _) _
  have hlen : l.length = n * es := by rw [dfill_len hl]; simp [zerosD]
  have hcl : (chunk es n l).length = n := chunk_len es n l
  refine ⟨_, _, fun b o => Pr b o ∨ (b = w.heap.size ∧ o < n * es), hrun, hx, fun _ _ h => .inl h, h.newobjG (v := .slice (some ⟨w.heap.size, 0, none⟩) n n) hd hno hx (fun _ _ h => .inl h) (fun b o ho => ho.imp id fun h1 => by simp [h1.1]) (fun g hg => by simp [blk] at hg; omega) (fun β' κ' e1 e2 e3 e4 => ?_) (fun β' κ' e1 e2 _ _ => .row d 0 _ ⟨_, _, _, rfl⟩ (Nat.zero_le _) (fun _ => e1.symm))⟩
  refine ⟨e2, cs, ?_, chunk_all es n l hlen, fun q j x z h3 h4 => ?_, fun b hb o => ?_⟩
  · rw [e1, hcl]
    refine ⟨by rw [hc.1, hlen], .inr ⟨w.heap.size, n, cs.toArray, rfl, Nat.zero_le _, heap_alloc_new w _, Nat.le_refl _, by unfold maxLen; omega, by simp; rw [hc.1, hlen], ?_⟩⟩
    show cs.take (n * es) = cs
    exact List.take_of_length_le (by rw [hc.1, hlen]; exact Nat.le_refl _)
  · obtain ⟨hi, hj, hz⟩ := chunk_get es n l q j x z h3 h4
    have hlt : q * es + j < cs.length := by rw [hc.1]; exact (List.getElem?_eq_some_iff.1 hz).1
    exact ⟨cs[q * es + j], List.getElem?_eq_getElem hlt, (hc.2 (q * es + j) _ z (List.getElem?_eq_getElem hlt) hz).keep (stays_below h hx) (fun _ _ h => .inl h)⟩
  · rw [e1] at hb
    simp only [Value.ownBlock, Option.some.injEq] at hb
    subst hb
    rw [hcl]
    refine ⟨fun ho => ho.elim (fun h1 => ?_) (·.2), fun ho => .inr ⟨rfl, ho⟩⟩
    have := h.prl _ _ h1
    omega
set_option maxRecDepth 20000 in
/-- A slice literal that is appended to. -/
theorem st_litR {parts : List (Nat × Operand)} {dp : List (Nat × D)} {l : List D} {l2 : List (List D)} {e es eb n : Nat} {ez : Value} (hT : ti t = .sl e es eb ez) (hp : PartsD sl ob parts dp) (hl : dfill (fun i => some (i * es, es)) (zerosD es n ez) dp = some l) (hc2 : chunk es n l = l2) (hn : n * es ≤ 1000) (hn2 : n ≤ 1000) (hd : d < E.n) (hno : noneOf d sl ob = true) :
    Step E ⟨some d, .buildSlice t n parts.toArray, T, p, af, g⟩ sl ob ((d, .row d 0) :: sl) ((d, .row e es 0 l2) :: ob) := by
  rintro a w ⟨Pr, β, κ, h⟩ K Q hK
  obtain ⟨v, w', Pr', hrun, _, _, hG⟩ := litR_now (d := d) (T := T) (p := p) (af := af) (g := g) h hT hp hl hc2 hn hn2 hd hno
  unfold Oper.wp
  rw [hrun, Oper.upon_value]
  exact hK _ _ ⟨_, _, _, hG⟩
set_option maxRecDepth 20000 in
/-- []T{}, to be appended to -/
theorem st_litR0 {e es eb : Nat} {ez : Value} (hT : ti t = .sl e es eb ez) (hd : d < E.n) (hno : noneOf d sl ob = true) :
    Step E ⟨some d, .buildSlice t 0 #[], T, p, af, g⟩ sl ob ((d, .row d 0) :: sl) ((d, .row e es 0 []) :: ob) :=
  st_litR (parts := []) (dp := []) (l := []) (n := 0) hT .nil (by simp [dfill, zerosD]) rfl (by simp) (by simp) hd hno
set_option maxRecDepth 20000 in
/-- A slice against nil: one without elements may be either. -/
theorem al_slnil {s : Nat} {l : List (List D)} {se : TypeId} {ops : Array Oper} {rest : List Oper} {Q : Exit → Act → World → Prop} (hx : ToD ob (ev sl x) (.list s l)) (ht : Tryz.prog.underlying t = some (.slice se)) (hd : d < E.n)
    (hK : ∀ b : Bool, (b = true → l = []) → AL E ops rest Q ((d, .d (.val (.bool b))) :: sl) ob) : AL E ops (⟨some d, .binOp .eql t x (.const (.slice none 0 0)) ty, T, p, af, none⟩ :: rest) Q sl ob := by
  refine ⟨fun a w hi => ?_⟩
  obtain ⟨Pr, β, κ, h⟩ := hi
  have hrep := toD_rep h hx _ (good_ev h x)
  obtain ⟨A, n, c, hv⟩ : ∃ A n c, a.eval x = .slice A n c := by
    obtain ⟨A, c, hv, _⟩ := list_form hrep
    exact ⟨_, _, _, hv⟩
  rw [hv] at hrep
  have hc : a.eval (.const (.slice none 0 0)) = Value.slice none 0 0 := rfl
  have hrun : (execOp a.eval ⟨some d, .binOp .eql t x (.const (.slice none 0 0)) ty, T, p, af, none⟩).run Tryz.prog w = .ok (.value (.bool A.isNone)) w := by
    simp [execOp, hv, hc, eqGuard_at_slice, Lib.run_eql_slice_nil w t se A n c 0 0 ht]
  refine wpList_plain rfl fun K hKK => ?_
  unfold Oper.wp
  rw [hrun, Oper.upon_value]
  refine hKK _ _ ((hK A.isNone fun hb => ?_).run _ _ ⟨Pr, β, κ, h.put hd (.d _ _ (.val _))⟩)
  cases hrep with
  | nil => rfl
  | list => cases hb
/-- The operation hands back a value that shows x, in whatever world. -/
def Yw (E : Entry) (o : Oper) (sl : Slots) (ob : Objs) (x : V) : Prop :=
  ∀ a w Pr β κ, Good E sl ob a w Pr β κ → ∃ v, RepV w Pr β κ v x ∧ ∀ w', (execOp a.eval o).run Tryz.prog w' = .ok (.value v) w'
theorem yw_y {o : Oper} {x : V} (h : Yw E o sl ob x) : Y E o sl ob x := fun a w Pr β κ hg => by
  obtain ⟨v, h1, h2⟩ := h a w Pr β κ hg
  exact ⟨v, h1, fun w' _ => h2 w'⟩
/-- the parts of a struct literal, of one cell each -/
inductive PartsS (sl : Slots) (fs : List (Nat × Nat × Nat)) : List (Nat × Operand) → List (Nat × V) → Prop where
  | nil : PartsS sl fs [] []
  | cons {i off ft : Nat} {x : Operand} {xs : List (Nat × Operand)} {v : V} {vs : List (Nat × V)} (hf : fs[i]? = some (off, 1, ft)) (h : Cf (ev sl x) v) (h1 : v.one = true) (hr : PartsS sl fs xs vs) : PartsS sl fs ((i, x) :: xs) ((off, v) :: vs)
def sfill (l : List V) : List (Nat × V) → List V
  | [] => l
  | (o, v) :: r => sfill (l.set o v) r
theorem sfill_rep (h : Good E sl ob a w Pr β κ) {fs : List (Nat × Nat × Nat)} : ∀ {parts : List (Nat × Operand)} {ps : List (Nat × V)}, PartsS sl fs parts ps → ∀ {cs : Array Value} {l : List V}, cs.toList.length = l.length → (∀ (j : Nat) (u : Value) (z : V), cs.toList[j]? = some u → l[j]? = some z → RepV w Pr β κ u z) →
    (∀ q ∈ ps, q.1 < l.length) →
    ∃ cs', Instr.fill (fun i => (fs[i]?).map fun q => (q.1, q.2.1)) cs (parts.map fun q => (q.1, a.eval q.2)) = some cs' ∧ cs'.toList.length = (sfill l ps).length ∧ ∀ (j : Nat) (u : Value) (z : V), cs'.toList[j]? = some u → (sfill l ps)[j]? = some z → RepV w Pr β κ u z := by
  intro parts ps hp
  induction hp with
  | nil => intro cs l hl hr _; exact ⟨cs, rfl, hl, hr⟩
  | @cons i off ft x xs v vs hf hc h1 _ ih =>
    intro cs l hl hr hb
    have hv : RepV w Pr β κ (a.eval x) v := hc.eq ▸ good_ev h x
    have hcell := one_cells (one_cell hv h1)
    have hoff : off < l.length := hb (off, v) (by simp)
    obtain ⟨cs', k1, k2, k3⟩ := ih (cs := cs.setIfInBounds off (a.eval x)) (l := l.set off v) (by simpa using hl) (fun j u z h3 h4 => by
      rw [Array.toList_setIfInBounds] at h3
      by_cases hj : off = j
      · subst hj
        rw [List.getElem?_set_self (by omega)] at h3
        rw [List.getElem?_set_self hoff] at h4
        cases h3
        cases h4
        exact hv
      · rw [List.getElem?_set_ne hj] at h3 h4
        exact hr j u z h3 h4) (fun q hq => by simpa using hb q (by simp [hq]))
    refine ⟨cs', ?_, k2, k3⟩
    simp only [List.map_cons, Instr.fill, hf, Option.map_some, hcell]
    rw [if_neg (by simp at hl ⊢; omega)]
    exact k1
set_option maxRecDepth 20000 in
/-- A struct literal that has objects in it. -/
theorem yw_buildS {dd : Option Nat} {z : List Value} {fs : List (Nat × Nat × Nat)} {parts : List (Nat × Operand)} {ps : List (Nat × V)} {l : List V} (hT : ti t = .st z fs) (hp : PartsS sl fs parts ps) (hb : (ps.all fun q => Nat.blt q.1 z.length) = true) (hl : sfill (z.map fun v => .d (.val v)) ps = l) :
    Yw E ⟨dd, .build t parts.toArray, T, p, af, g⟩ sl ob (.agg l) := fun a w Pr β κ h => by
  subst hl
  obtain ⟨i, F, h1, h2, h3, h4, h5⟩ := ti_st hT
  obtain ⟨cs, hf, k1, k2⟩ := sfill_rep h hp (cs := z.toArray) (l := z.map fun v => .d (.val v)) (by simp) (fun j u y h6 h7 => by
    simp only [List.getElem?_map, Option.map_eq_some_iff] at h7
    obtain ⟨y', h8, rfl⟩ := h7
    have : u = y' := by simpa [h8] using h6.symm
    subst this
    exact .d _ _ (.val _)) (fun q hq => by have := List.all_eq_true.1 hb q hq; simpa [Nat.blt_eq] using this)
  refine ⟨.agg cs, ?_, fun w' => ?_⟩
  · have := RepV.agg (w := w) (Pr := Pr) (β := β) (κ := κ) cs.toList _ k1 k2
    simpa using this
  · have hpl : F.toList.mapM (fun f => (Tryz.prog.info? f.type).map fun i => (f.offset, i.size)) = some (fs.map fun q => (q.1, q.2.1)) := by
      have key : ∀ (F : List Field) (fs : List (Nat × Nat × Nat)), F.mapM (fun f => (Tryz.prog.info? f.type).map fun j => (f.offset, j.size, f.type)) = some fs → F.mapM (fun f => (Tryz.prog.info? f.type).map fun i => (f.offset, i.size)) = some (fs.map fun q => (q.1, q.2.1)) := by
        intro F
        induction F with
        | nil => intro fs h; simp at h; subst h; rfl
        | cons f F ih =>
          intro fs h
          rw [List.mapM_cons] at h ⊢
          cases hx : Tryz.prog.info? f.type with
          | none => rw [hx] at h; simp at h
          | some j =>
            rw [hx] at h
            cases hy : F.mapM (fun f => (Tryz.prog.info? f.type).map fun j => (f.offset, j.size, f.type)) with
            | none => rw [hy] at h; simp at h
            | some r =>
              rw [hy] at h
              simp at h
              subst h
              rw [ih r hy]
              simp
      exact key _ _ h5
    have hb : Tryz.prog.built t (parts.map fun q => (q.1, a.eval q.2)) = some cs := by
      simp only [Program.built, h1, h2, h4, hpl, Value.cells]
      rw [← hf]
      congr 1
      funext i
      simp
    have hr := run_build (P := Tryz.prog) w' t (parts.map fun q => (q.1, a.eval q.2)).toArray cs (by simpa using hb)
    have e : (parts.toArray.map fun x => (x.1, a.eval x.2)) = (parts.map fun q => (q.1, a.eval q.2)).toArray := by simp
    simp only [execOp, e, Sem.run_bind, hr]
    rfl
theorem y_buildS {dd : Option Nat} {z : List Value} {fs : List (Nat × Nat × Nat)} {parts : List (Nat × Operand)} {ps : List (Nat × V)} {l : List V} (hT : ti t = .st z fs) (hp : PartsS sl fs parts ps) (hb : (ps.all fun q => Nat.blt q.1 z.length) = true) (hl : sfill (z.map fun v => .d (.val v)) ps = l) :
    Y E ⟨dd, .build t parts.toArray, T, p, af, g⟩ sl ob (.agg l) := yw_y (yw_buildS hT hp hb hl)
theorem aq_adoptb {x : Exit} {Q : Exit → Act → World → Prop} (i j r e s : Nat) {T : TypeId} {l l' : List V} (hf : find ob i = some (.box T l)) (hx : l[j]? = some (.d (.val (.slice none 0 0)))) (hno : noneOf r sl ob = true) (hr : r < E.n) (hir : Nat.beq i r = false) (hl : l.set j (.row r 0) = l')
    (h : AQ E x Q sl ((i, .box T l') :: (r, .row e s 0 []) :: ob)) : AQ E x Q sl ob := by
  subst hl
  refine ⟨fun a w hi => ?_⟩
  obtain ⟨Pr, β, κ, hg⟩ := hi
  exact h.run a w (hg.adoptb hf hx hno hr (fun e => by rw [e, Nat.beq_refl] at hir; cases hir))
end
section
variable {E : Entry} {sl sl0 : Slots} {ob ob0 : Objs} {ops : List Oper} {pl : List (Nat × Bool × Oper)} {Q : Exit → Act → World → Prop} {tail : (World → Prop) → Act → World → Prop} {g : Option (Nat × Bool)} {p : String} {af : Array Edge} {T ty t : TypeId} {d i : Nat}
end
section
variable {E : Entry} {sl sl0 : Slots} {ob ob0 : Objs} {ops : List Oper} {pl : List (Nat × Bool × Oper)} {Q : Exit → Act → World → Prop} {tail : (World → Prop) → Act → World → Prop} {g : Option (Nat × Bool)} {p : String} {af : Array Edge} {T ty t : TypeId} {d i : Nat}
set_option maxRecDepth 20000 in
/-- A call that makes an object, in a statement that draws. -/
theorem am_ocall1 {f : FuncId} {args : List V} {ob1 : Objs} {n : Nat} {Post : V → Objs → Prop} {c : Operand} {xs : List Operand} {ats : Array TypeId} (l : List (Nat × Nat)) (hc : ObC f args ob1 [n] Post) (hw : Want ops sl true g) (hf : ev sl c = .d (.val (.func (.func f) #[] #[]))) (hE : Fine E) (hd : d < E.n) (ha : ArgsV l sl ob xs args)
    (hL : Lends E sl ob l ob1 [n]) (hfree : ((keys ob0).all fun j => !(mem ((keys ob1).map (rn l)) j)) = true) (hno0 : noneOf (rn l n) sl0 ob0 = true) (hk0 : find ob0 (rn l n) = none) (hnn : rn l n < E.n)
    (hK : ∀ x ob', Post x ob' → ∀ y ob2, x.ren l = y → renO l ob' ++ dropK ((keys ob1).map (rn l)) ob = ob2 → AM E ops tail Q pl ((d, .und) :: sl0) ob0 ((d, y) :: sl) ob2) : AM E ops tail Q ((i, false, ⟨some d, .call { callee := .value c, args := xs.toArray, argTypes := ats }, ty, p, af, g⟩) :: pl) sl0 ob0 sl ob := by
  refine ⟨fun a w0 w Pr Pr1 β β1 κ κ1 h0 h h2 => ?_⟩
  refine mix_move (hw.is h) (fun K hKK => ?_)
  obtain ⟨hlen, hr⟩ := ha.rep h
  have hfo := hL.find
  obtain ⟨ho, hl, hk, hk2, hn⟩ := hL
  have hcall := hc.2 w Pr1 (xs.map a.eval) _ _ h.prl (env_now hE h) hlen hr (fun i o hi => repO_in (h.objs _ _ (hfo i o hi))) (fun i j oi oj g hi hj hgi hgj => by
    have e := h.apart _ _ _ _ g (hfo i oi hi) (hfo j oj hj) hgi hgj
    have k1 := okRen_at hl (mem_iff.1 (List.all_eq_true.1 hk i (List.mem_append_left _ (find_mem hi))))
    have k2 := okRen_at hl (mem_iff.1 (List.all_eq_true.1 hk j (List.mem_append_left _ (find_mem hj))))
    rw [e, k2] at k1
    cases k1
    rfl)
  have hrun : (execOp a.eval ⟨some d, .call { callee := .value c, args := xs.toArray, argTypes := ats }, ty, p, af, g⟩).run Tryz.prog w = .ok (.enter f (xs.map a.eval).toArray) w := by
    simp [execOp, resolve, Deferred.ofValue, invoke, good_val h hf, run_callFunc hc.1]
  unfold Oper.wp
  rw [hrun, Oper.upon_enter]
  refine hcall.mono fun e w' ⟨v, x, ob', Pr', β', κ', he, hp, hA⟩ => ?_
  subst he
  obtain ⟨Pr2, β2, κ2, hG, e1, e2, e3⟩ := h.ocalled2' hd hA ho hl hk hk2 hn
  have hnot : ∀ i o, find ob0 i = some o → i ∉ (keys ob1).map (rn l) := by
    intro i o hi hm
    have := List.all_eq_true.1 hfree i (find_mem hi)
    rw [mem_iff.2 hm] at this
    cases this
  have hne : ∀ i o, find ob0 i = some o → i ≠ rn l n := fun i o hi e => by rw [e, hk0] at hi; cases hi
  have hnot2 : ∀ i o, find ob0 i = some o → i ∉ (keys ob1 ++ [n]).map (rn l) := by
    intro i o hi hm
    rw [List.map_append] at hm
    rcases List.mem_append.1 hm with hm | hm
    · exact hnot i o hi hm
    · simp at hm
      exact hne i o hi hm
  have hkept : Kept Pr β ob0 w0 w' := h2.kept.trans (Pr1 := Pr1) ⟨by rw [e1] at *; exact hA.st, fun i o g h3 h4 => by
      obtain ⟨q1, q2⟩ := h2.sub i o h3
      have hlt := (h.objs i o q1).blkLt g (by rw [q2]; exact h4)
      refine hA.under.block g hlt.2 ?_
      rintro ⟨j, oj, h5, h6⟩
      have := h.apart i (rn l j) o _ g q1 (hfo j oj h5) (by rw [q2]; exact h4) h6
      exact hnot i o h3 (List.mem_map.2 ⟨j, find_mem h5, this.symm⟩), hA.under.size⟩ h2.pr
  have hnow : Now ob0 (renO l ob' ++ dropK ((keys ob1).map (rn l)) ob) w0 w' Pr Pr2 (updV β (rn l n) (β2 (rn l n))) β2 (updN κ (rn l n) (κ2 (rn l n))) κ2 := by
    refine ⟨by rw [kept_upd hk0]; exact hkept, fun b o hb => by rw [e1]; exact hA.pr0 b o (h2.pr b o hb), fun j => ?_, fun i o hi => ?_⟩
    · by_cases hj : j = rn l n
      · subst hj
        exact .inl ⟨by rw [updV_same], by rw [updN_same]⟩
      · rw [updV_other _ _ _ j hj, updN_other _ _ _ j hj]
        have hq1 := h2.then_ j
        have hq2 := e2 j (fun i hi => by simp at hi; subst hi; exact fun e => hj e.symm)
        rcases hq1 with ⟨k1, k2⟩ | ⟨k1, k2⟩
        · rcases hq2 with ⟨q1, q2⟩ | ⟨q1, q2⟩
          · exact .inl ⟨q1.trans k1, q2.trans k2⟩
          · exact .inr ⟨by omega, by rw [← k1]; exact q2⟩
        · rcases hq2 with ⟨q1, q2⟩ | ⟨q1, q2⟩
          · exact .inr ⟨by omega, k2⟩
          · exact .inr ⟨by omega, k2⟩
    · obtain ⟨q1, q2⟩ := h2.sub i o hi
      have hnr : ∀ k ∈ keys ob', rn l k ≠ i := by
        intro k hk' e
        obtain ⟨o', ho'⟩ := find_of_mem hk'
        exact hnot2 i o hi (List.mem_map.2 ⟨k, (hA.wo k o' ho').1, e⟩)
      rw [updV_other _ _ _ i (hne i o hi)]
      refine ⟨find_new hl (fun k hk' => ?_) hnr (hnot i o hi) q1, (e3 i (hnot2 i o hi)).1.trans q2⟩
      obtain ⟨o', ho'⟩ := find_of_mem hk'
      exact mem_iff.1 (List.all_eq_true.1 hk k (hA.wo k o' ho').1)
  refine hKK.out _ _ hkept fun _ => ?_
  have h0' := (h0.rename hnn hno0 hk0 (β2 (rn l n)) (κ2 (rn l n))).put hd (v := v) (.und _)
  have := (hK x ob' hp _ _ rfl rfl).run _ w0 w' Pr Pr2 _ _ _ _ h0' hG hnow
  rw [kept_upd hk0] at this
  exact this
/-- the same; a result that is a value is known wherever it is read -/
theorem am_ocall1d {f : FuncId} {args : List V} {ob1 : Objs} {n : Nat} {Post : V → Objs → Prop} {c : Operand} {xs : List Operand} {ats : Array TypeId} (l : List (Nat × Nat)) (hc : ObC f args ob1 [n] Post) (hw : Want ops sl true g) (hf : ev sl c = .d (.val (.func (.func f) #[] #[]))) (hE : Fine E) (hd : d < E.n) (ha : ArgsV l sl ob xs args)
    (hL : Lends E sl ob l ob1 [n]) (hfree : ((keys ob0).all fun j => !(mem ((keys ob1).map (rn l)) j)) = true) (hno0 : noneOf (rn l n) sl0 ob0 = true) (hk0 : find ob0 (rn l n) = none) (hnn : rn l n < E.n)
    (hK : ∀ x ob', Post x ob' → ∀ y ob2, x.ren l = y → renO l ob' ++ dropK ((keys ob1).map (rn l)) ob = ob2 → AM E ops tail Q pl ((d, flatV y) :: sl0) ob0 ((d, y) :: sl) ob2) : AM E ops tail Q ((i, false, ⟨some d, .call { callee := .value c, args := xs.toArray, argTypes := ats }, ty, p, af, g⟩) :: pl) sl0 ob0 sl ob := by
  refine ⟨fun a w0 w Pr Pr1 β β1 κ κ1 h0 h h2 => ?_⟩
  refine mix_move (hw.is h) (fun K hKK => ?_)
  obtain ⟨hlen, hr⟩ := ha.rep h
  have hfo := hL.find
  obtain ⟨ho, hl, hk, hk2, hn⟩ := hL
  have hcall := hc.2 w Pr1 (xs.map a.eval) _ _ h.prl (env_now hE h) hlen hr (fun i o hi => repO_in (h.objs _ _ (hfo i o hi))) (fun i j oi oj g hi hj hgi hgj => by
    have e := h.apart _ _ _ _ g (hfo i oi hi) (hfo j oj hj) hgi hgj
    have k1 := okRen_at hl (mem_iff.1 (List.all_eq_true.1 hk i (List.mem_append_left _ (find_mem hi))))
    have k2 := okRen_at hl (mem_iff.1 (List.all_eq_true.1 hk j (List.mem_append_left _ (find_mem hj))))
    rw [e, k2] at k1
    cases k1
    rfl)
  have hrun : (execOp a.eval ⟨some d, .call { callee := .value c, args := xs.toArray, argTypes := ats }, ty, p, af, g⟩).run Tryz.prog w = .ok (.enter f (xs.map a.eval).toArray) w := by
    simp [execOp, resolve, Deferred.ofValue, invoke, good_val h hf, run_callFunc hc.1]
  unfold Oper.wp
  rw [hrun, Oper.upon_enter]
  refine hcall.mono fun e w' ⟨v, x, ob', Pr', β', κ', he, hp, hA⟩ => ?_
  subst he
  obtain ⟨Pr2, β2, κ2, hG, e1, e2, e3⟩ := h.ocalled2' hd hA ho hl hk hk2 hn
  have hnot : ∀ i o, find ob0 i = some o → i ∉ (keys ob1).map (rn l) := by
    intro i o hi hm
    have := List.all_eq_true.1 hfree i (find_mem hi)
    rw [mem_iff.2 hm] at this
    cases this
  have hne : ∀ i o, find ob0 i = some o → i ≠ rn l n := fun i o hi e => by rw [e, hk0] at hi; cases hi
  have hnot2 : ∀ i o, find ob0 i = some o → i ∉ (keys ob1 ++ [n]).map (rn l) := by
    intro i o hi hm
    rw [List.map_append] at hm
    rcases List.mem_append.1 hm with hm | hm
    · exact hnot i o hi hm
    · simp at hm
      exact hne i o hi hm
  have hkept : Kept Pr β ob0 w0 w' := h2.kept.trans (Pr1 := Pr1) ⟨by rw [e1] at *; exact hA.st, fun i o g h3 h4 => by
      obtain ⟨q1, q2⟩ := h2.sub i o h3
      have hlt := (h.objs i o q1).blkLt g (by rw [q2]; exact h4)
      refine hA.under.block g hlt.2 ?_
      rintro ⟨j, oj, h5, h6⟩
      have := h.apart i (rn l j) o _ g q1 (hfo j oj h5) (by rw [q2]; exact h4) h6
      exact hnot i o h3 (List.mem_map.2 ⟨j, find_mem h5, this.symm⟩), hA.under.size⟩ h2.pr
  have hnow : Now ob0 (renO l ob' ++ dropK ((keys ob1).map (rn l)) ob) w0 w' Pr Pr2 (updV β (rn l n) (β2 (rn l n))) β2 (updN κ (rn l n) (κ2 (rn l n))) κ2 := by
    refine ⟨by rw [kept_upd hk0]; exact hkept, fun b o hb => by rw [e1]; exact hA.pr0 b o (h2.pr b o hb), fun j => ?_, fun i o hi => ?_⟩
    · by_cases hj : j = rn l n
      · subst hj
        exact .inl ⟨by rw [updV_same], by rw [updN_same]⟩
      · rw [updV_other _ _ _ j hj, updN_other _ _ _ j hj]
        have hq1 := h2.then_ j
        have hq2 := e2 j (fun i hi => by simp at hi; subst hi; exact fun e => hj e.symm)
        rcases hq1 with ⟨k1, k2⟩ | ⟨k1, k2⟩
        · rcases hq2 with ⟨q1, q2⟩ | ⟨q1, q2⟩
          · exact .inl ⟨q1.trans k1, q2.trans k2⟩
          · exact .inr ⟨by omega, by rw [← k1]; exact q2⟩
        · rcases hq2 with ⟨q1, q2⟩ | ⟨q1, q2⟩
          · exact .inr ⟨by omega, k2⟩
          · exact .inr ⟨by omega, k2⟩
    · obtain ⟨q1, q2⟩ := h2.sub i o hi
      have hnr : ∀ k ∈ keys ob', rn l k ≠ i := by
        intro k hk' e
        obtain ⟨o', ho'⟩ := find_of_mem hk'
        exact hnot2 i o hi (List.mem_map.2 ⟨k, (hA.wo k o' ho').1, e⟩)
      rw [updV_other _ _ _ i (hne i o hi)]
      refine ⟨find_new hl (fun k hk' => ?_) hnr (hnot i o hi) q1, (e3 i (hnot2 i o hi)).1.trans q2⟩
      obtain ⟨o', ho'⟩ := find_of_mem hk'
      exact mem_iff.1 (List.all_eq_true.1 hk k (hA.wo k o' ho').1)
  refine hKK.out _ _ hkept fun _ => ?_
  have hfl : RepV w0 Pr (updV β (rn l n) (β2 (rn l n))) (updN κ (rn l n) (κ2 (rn l n))) v (flatV (x.ren l)) := by
    have hx := hA.val
    cases x with
    | d z => exact rep_flat hx.d_inv
    | _ => exact .und _
  have h0' := (h0.rename hnn hno0 hk0 (β2 (rn l n)) (κ2 (rn l n))).put hd (v := v) hfl
  have := (hK x ob' hp _ _ rfl rfl).run _ w0 w' Pr Pr2 _ _ _ _ h0' hG hnow
  rw [kept_upd hk0] at this
  exact this
end
end Go.Proofs.YtfgibalcdjlnhaaGreatDoor
