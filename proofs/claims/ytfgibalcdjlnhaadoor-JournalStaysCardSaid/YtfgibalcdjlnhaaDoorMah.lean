/-
  Maps over abstract states: look-up, update, making, deleting, ranging. Conditions: none.
  An object's name is changed, in a function that was lent nothing; over abstract states. Conditions: nobody speaks of the new name.
  Strings copied into slices that are made; parts of these; over abstract states. Conditions: what is copied fits.
-/
import Derived.Maps.RangeRun
import Derived.Maps.Keyed
import Derived.Lib.SliceRun
import Derived.Laws.Cover3
import Derived.Lib.BufferWrite
import Derived.Test.YtfgibalcdjlnhaaDoorMag
section
namespace Go.Proofs.YtfgibalcdjlnhaaDoor
open Go.RowKit Go.ChangeMaps

/-- a key, as a value -/
def keyL : List D → Option (List Value)
  | [] => some []
  | .val v :: l => (keyL l).map (v :: ·)
  | _ :: _ => none
def keyV : V → Option Value
  | .d (.val v) => some v
  | .d (.agg l) => (keyL l).map fun cs => .agg cs.toArray
  | _ => none
theorem keyL_rep {w : World} {Pr : Prot} : ∀ {l : List D} {cs r : List Value}, keyL l = some r → cs.length = l.length → (∀ (i : Nat) (v : Value) (d : D), cs[i]? = some v → l[i]? = some d → RepD w Pr v d) → cs = r
  | [], [], r, h, _, _ => by cases h; rfl
  | [], _ :: _, _, _, hl, _ => by simp at hl
  | _ :: _, [], _, _, hl, _ => by simp at hl
  | d :: l, v :: cs, r, h, hl, hd => by
    cases d with
    | val u =>
      simp only [keyL, Option.map_eq_some_iff] at h
      obtain ⟨q, hq, rfl⟩ := h
      rw [keyL_rep hq (by simpa using hl) (fun i v d h1 h2 => hd (i + 1) v d h1 h2)]
      cases hd 0 v _ rfl rfl
      rfl
    | list s l => cases h
    | agg l => cases h
    | tup l => cases h
    | err => cases h
theorem keyV_rep {w : World} {Pr : Prot} {β : Nat → Value} {κ : Nat → Nat} {v u : Value} {x : V} (h : RepV w Pr β κ v x) (hk : keyV x = some u) : v = u := by
  cases h with
  | d v x h =>
    cases h with
    | val v => cases hk; rfl
    | agg cs l hl hd =>
      simp only [keyV, Option.map_eq_some_iff] at hk
      obtain ⟨r, hr, rfl⟩ := hk
      rw [keyL_rep hr hl hd]
    | nil A c s hm => cases hk
    | list b o n c s l u hn hs hc hm hr hd => cases hk
    | tup cs l hl hd => cases hk
    | err t u => cases hk
  | _ => cases hk
/-- a key that comes out of a map -/
def keyD : Value → D
  | .agg cs => .agg (cs.toList.map D.val)
  | v => .val v
theorem keyD_rep (w : World) (Pr : Prot) (v : Value) : RepD w Pr v (keyD v) := by
  cases v with
  | agg cs =>
    simp only [keyD]
    have := RepD.agg (w := w) (Pr := Pr) cs.toList (cs.toList.map D.val) (by simp) (fun i v d h1 h2 => by
      rw [List.getElem?_map, h1] at h2
      cases h2
      exact .val _)
    simpa using this
  | _ => exact .val _

/-- What the rules need of a map's type: its keys' and its elements', and an element that is not there. -/
structure MapT (t kt et : TypeId) (z : D) (zv : Value) : Prop where
  u : Tryd.prog.underlying t = some (.map kt et)
  K : Maps.Keyed Tryd.prog kt
  zero : ∀ w, (zeroValue et).run Tryd.prog w = .ok zv w
  zr : ∀ w Pr, RepD w Pr zv z
abbrev ME := Nat × Value × D
inductive Hit (l : List ME) (k : Value) (z : D) : D → Bool → Prop where
  | yes (j n : Nat) (d : D) (h : l[j]? = some (n, k, d)) : Hit l k z d true
  | no (h : ∀ q ∈ l, q.2.1 ≠ k) : Hit l k z z false
/-- an entry is set -/
inductive Put (c : Nat) (l : List ME) (k : Value) (d : D) : Nat → List ME → Prop where
  | old (j n : Nat) (d0 : D) (h : l[j]? = some (n, k, d0)) : Put c l k d c (l.set j (n, k, d))
  | new (h : ∀ q ∈ l, q.2.1 ≠ k) : Put c l k d (c + 1) (l ++ [(c, k, d)])
inductive Del (l : List ME) (k : Value) : List ME → Prop where
  | old (j n : Nat) (d0 : D) (h : l[j]? = some (n, k, d0)) : Del l k (l.eraseIdx j)
  | no (h : ∀ q ∈ l, q.2.1 ≠ k) : Del l k l

def Ents (es : List MapEntry) (l : List ME) : Prop := es.map (fun x => (x.born, x.key)) = l.map (fun q => (q.1, q.2.1))
theorem Ents.len {es : List MapEntry} {l : List ME} (h : Ents es l) : es.length = l.length := by have := congrArg List.length h; simpa using this
theorem Ents.get {es : List MapEntry} {l : List ME} (h : Ents es l) {j : Nat} {q : ME} (hj : l[j]? = some q) : ∃ x, es[j]? = some x ∧ x.born = q.1 ∧ x.key = q.2.1 := by
  have h1 : (es.map (fun x => (x.born, x.key)))[j]? = some (q.1, q.2.1) := by rw [h, List.getElem?_map, hj]; rfl
  rw [List.getElem?_map, Option.map_eq_some_iff] at h1
  obtain ⟨x, hx, e⟩ := h1
  simp only [Prod.mk.injEq] at e
  exact ⟨x, hx, e.1, e.2⟩
theorem Ents.put {es : List MapEntry} {l : List ME} (h : Ents es l) {j : Nat} {x : MapEntry} (hj : es[j]? = some x) : ∃ q, l[j]? = some q ∧ x.born = q.1 ∧ x.key = q.2.1 := by
  have h1 : (l.map (fun q => (q.1, q.2.1)))[j]? = some (x.born, x.key) := by rw [← h, List.getElem?_map, hj]; rfl
  rw [List.getElem?_map, Option.map_eq_some_iff] at h1
  obtain ⟨q, hq, e⟩ := h1
  simp only [Prod.mk.injEq] at e
  exact ⟨q, hq, e.1.symm, e.2.symm⟩
theorem nodup_one {α β : Type} {f : α → β} {l : List α} (h : (l.map f).Nodup) {i j : Nat} {a b : α} (hi : l[i]? = some a) (hj : l[j]? = some b) (e : f a = f b) : i = j := by
  refine (List.getElem?_inj (l := l.map f) (by rw [List.length_map]; exact (List.getElem?_eq_some_iff.1 hi).1) h).1 ?_
  rw [List.getElem?_map, List.getElem?_map, hi, hj, Option.map_some, Option.map_some, e]

section
variable {t kt et : TypeId} {z : D} {zv : Value}
theorem KeyOk.lit (M : MapT t kt et z zv) {k : Value} (h : KeyOk t k) : ∃ lit, keyOf Tryd.prog kt k = some lit := by
  obtain ⟨kt', et', lit, h1, h2⟩ := h
  rw [M.u] at h1
  cases h1
  exact ⟨lit, h2⟩
theorem KeyOk.of (M : MapT t kt et z zv) {k : Value} {lit : Lit} (h : keyOf Tryd.prog kt k = some lit) : KeyOk t k := ⟨kt, et, lit, M.u, h⟩
theorem map_find {es : List MapEntry} {l : List ME} {clock : Nat} {k : Value} (h : Ents es l) (hok : MapOk t clock l) (M : MapT t kt et z zv) (hk : KeyOk t k) (w : World) :
    ((Instr.findKey kt k es).run Tryd.prog w = .ok none w ∧ ∀ q ∈ l, q.2.1 ≠ k) ∨
    ∃ (j : Nat) (x : MapEntry) (q : ME), (Instr.findKey kt k es).run Tryd.prog w = .ok (some (j, x.val)) w ∧ es[j]? = some x ∧ l[j]? = some q ∧ q.2.1 = k ∧ x.key = k ∧ x.born = q.1 := by
  obtain ⟨lit, hlit⟩ := hk.lit M
  rcases M.K.find w hlit es (fun e he => by
    obtain ⟨j, hj⟩ := List.mem_iff_getElem?.1 he
    obtain ⟨q, hq, _, h2⟩ := h.put hj
    rw [h2]
    exact (hok.ok q (List.mem_of_getElem? hq)).lit M) with ⟨h1, h2⟩ | ⟨j, x, h1, h2, h3⟩
  · refine .inl ⟨h1, fun q hq e => ?_⟩
    obtain ⟨j, hj⟩ := List.mem_iff_getElem?.1 hq
    obtain ⟨x, hx, _, h4⟩ := h.get hj
    exact h2 x (List.mem_of_getElem? hx) (h4.trans e)
  · obtain ⟨q, hq, h4, h5⟩ := h.put h2
    exact .inr ⟨j, x, q, h1, h2, hq, h5.symm.trans h3, h3, h4⟩
/-- the same, where it is known what is there -/
theorem map_hit {es : List MapEntry} {l : List ME} {clock : Nat} {k : Value} (h : Ents es l) (hok : MapOk t clock l) (M : MapT t kt et z zv) (hk : KeyOk t k) {j n : Nat} {d : D} (hj : l[j]? = some (n, k, d)) :
    ∃ x, es[j]? = some x ∧ x.born = n ∧ x.key = k ∧ ∀ w, (Instr.findKey kt k es).run Tryd.prog w = .ok (some (j, x.val)) w := by
  obtain ⟨x, hx, h1, h2⟩ := h.get hj
  refine ⟨x, hx, h1, h2, fun w => ?_⟩
  rcases map_find h hok M hk w with ⟨_, h4⟩ | ⟨j', x', q', h3, h4, h5, h6, _⟩
  · exact absurd rfl (h4 _ (List.mem_of_getElem? hj))
  · obtain rfl : j' = j := nodup_one hok.keys h5 hj h6
    rw [hx] at h4
    cases h4
    exact h3
theorem map_miss {es : List MapEntry} {l : List ME} {clock : Nat} {k : Value} (h : Ents es l) (hok : MapOk t clock l) (M : MapT t kt et z zv) (hk : KeyOk t k) (hn : ∀ q ∈ l, q.2.1 ≠ k) (w : World) : (Instr.findKey kt k es).run Tryd.prog w = .ok none w := by
  rcases map_find h hok M hk w with ⟨h3, _⟩ | ⟨j', x', q', _, _, h5, h6, _⟩
  · exact h3
  · exact absurd h6 (hn _ (List.mem_of_getElem? h5))
variable {E : Entry} {sl : Slots} {ob : Objs} {a : Act} {w : World} {Pr : Prot} {β : Nat → Value} {κ : Nat → Nat}
variable {d : Nat} {dd : Option Nat} {T ty : TypeId} {p : String} {af : Array Edge} {g : Option (Nat × Bool)} {x y c : Operand}
theorem map_at (h : Good E sl ob a w Pr β κ) {i clock : Nat} {l : List ME} (hx : ev sl x = .mp i) (hf : find ob i = some (.map t clock l)) :
    ∃ (b : Nat) (es : List MapEntry), a.eval x = .map (some b) ∧ β i = .map (some b) ∧ w.heap[b]? = some (.map es.toArray clock) ∧ Ents es l ∧ MapOk t clock l ∧
      (∀ (j : Nat) (x : MapEntry) (q : ME), es[j]? = some x → l[j]? = some q → RepD w Pr x.val q.2.2) ∧ (∀ o, ¬ Pr b o) ∧ ∀ w', Kept Pr β ob w w' → w'.heap[b]? = some (.map es.toArray clock) := by
  have hv := good_ev h x
  rw [hx] at hv
  generalize a.eval x = v at hv
  cases hv with
  | mp _ b hb =>
    obtain ⟨b', es, hb', hB, hh, ⟨hes, hok⟩, hr, hno⟩ := h.objs i _ hf
    rw [hb'] at hb
    simp only [Value.map.injEq, Option.some.injEq] at hb
    subst hb
    exact ⟨b', es, rfl, hb', hh, hes, hok, hr, hno, fun w' hk => (hk.objs i _ b' hf (by rw [hb']; rfl)).trans hh⟩
theorem pair_rep {u v : Value} {q r : D} (h1 : RepD w Pr u q) (h2 : RepD w Pr v r) : RepD w Pr (.tuple #[u, v]) (.tup [q, r]) :=
  .tup [u, v] [q, r] rfl (fun i v d h3 h4 => by
    match i with
    | 0 => simp at h3 h4; subst h3 h4; exact h1
    | 1 => simp at h3 h4; subst h3 h4; exact h2
    | i + 2 => simp at h3)
set_option maxRecDepth 20000 in
theorem lookup_any (h : Good E sl ob a w Pr β κ) (M : MapT t kt et z zv) {i clock : Nat} {l : List ME} {k : Value} {r : D} {b : Bool} (hx : ev sl x = .mp i) (hf : find ob i = some (.map t clock l)) (hy : keyV (ev sl y) = some k) (hk : KeyOk t k) (hr : Hit l k z r b) :
    ∃ v, RepD w Pr v r ∧ ∀ w' ok, Kept Pr β ob w w' → (execOp a.eval ⟨dd, .lookup t x y ok, T, p, af, g⟩).run Tryd.prog w' = .ok (.value (if ok then .tuple #[v, .bool b] else v)) w' := by
  obtain ⟨gm, es, hav, hb, hh, hes, hok, hrv, hno, hkept⟩ := map_at h hx hf
  have hkv : a.eval y = k := keyV_rep (good_ev h y) hy
  obtain ⟨lit, hlit⟩ := hk.lit M
  cases hr with
  | yes j n d hj =>
    obtain ⟨e, he, h1, h2, h3⟩ := map_hit hes hok M hk hj
    refine ⟨e.val, hrv j e _ he hj, fun w' ok hk' => ?_⟩
    simp [execOp, hav, hkv, Instr.lookup, run_underlying M.u, MapKept.run_getObj_map (hkept w' hk'), M.K.check w' _ hlit, h3 w', Result.andThen]
  | no hn =>
    refine ⟨zv, M.zr w Pr, fun w' ok hk' => ?_⟩
    simp [execOp, hav, hkv, Instr.lookup, run_underlying M.u, MapKept.run_getObj_map (hkept w' hk'), M.K.check w' _ hlit, map_miss hes hok M hk hn w', M.zero w', Result.andThen]
set_option maxRecDepth 20000 in
theorem y_lookup1 (M : MapT t kt et z zv) {i clock : Nat} {l : List ME} {k : Value} {r : D} {b : Bool} (hx : ev sl x = .mp i) (hf : find ob i = some (.map t clock l)) (hy : keyV (ev sl y) = some k) (hk : KeyOk t k) (hr : Hit l k z r b) :
    Y E ⟨dd, .lookup t x y false, T, p, af, g⟩ sl ob (.d r) := fun a w Pr β κ h => by
  obtain ⟨v, hv, hrun⟩ := lookup_any (dd := dd) (T := T) (p := p) (af := af) (g := g) h M hx hf hy hk hr
  exact ⟨_, .d _ _ hv, fun w' hk' => hrun w' false hk'⟩
/-- An object's block is set anew. -/
theorem Good.setblk (h : Good E sl ob a w Pr β κ) {i b : Nat} {o o' : O} (hf : find ob i = some o) (hb : blk (β i) = some b) {q q0 : Obj} (hno : ∀ q, ¬ Pr b q) (hq : w.heap[b]? = some q0)
    (ho : (∀ (v : Value) (x : V), RepV w Pr β κ v x → RepV (setBlock w b q) Pr β κ v x) → (∀ (v : Value) (x : D), RepD w Pr v x → RepD (setBlock w b q) Pr v x) → RepO (setBlock w b q) Pr 0 β κ i o') : Good E sl ((i, o') :: ob) a (setBlock w b q) Pr β κ := by
  have hother : ∀ b', b' ≠ b → (setBlock w b q).heap[b']? = w.heap[b']? := fun b' hne => (MapKept.heap_set hq).2 b' hne
  have hs : Stays Pr w (setBlock w b q) := fun b' r hr => World.cell?_of_block (a := ⟨b', r, none⟩) (hother b' (by rintro rfl; exact hno r hr))
  have hbo := h.own i o b hf hb
  have hx : Under (fun g => g = b) w (setBlock w b q) := ⟨rfl, rfl, rfl, by simp [setBlock], fun k _ hn => hother k hn⟩
  refine ⟨h.below.then hx (fun g hg => hg ▸ hbo), fun b' r hr => (hs b' r (h.pr0 b' r hr)).trans (h.st0 b' r hr), h.pr0, h.prn, fun b' r hr => by have := h.prl b' r hr; simpa [setBlock] using this, h.size, h.defers, fun j => (h.slots j).keep hs (fun _ _ h => h), fun j oj hj => ?_, fun j k oj ok g hj hk => ?_, fun j oj g hj hg => ?_, h.keeps, h.fresh⟩
  rotate_right 1
  · by_cases hji : j = i
    · subst hji
      exact h.own j o g hf hg
    · exact h.own j oj g (find_other hji hj) hg
  · by_cases hji : j = i
    · subst hji
      rw [find_eq] at hj
      cases hj
      exact ho (fun v x hv => hv.keep hs (fun _ _ h => h)) (fun v x hv => hv.keep hs (fun _ _ h => h))
    · have hj' := find_other hji hj
      refine (h.objs j oj hj').keep hs (fun _ _ h => h) (fun _ _ h => .inl h) (fun g hg => hother g ?_)
      rintro rfl
      exact hji (h.apart j i oj o _ hj' hf hg hb)
  · have key : ∀ m om, find ((i, o') :: ob) m = some om → ∃ om', find ob m = some om' := by
      intro m om hm
      by_cases hmi : m = i
      · exact ⟨o, hmi ▸ hf⟩
      · exact ⟨om, find_other hmi hm⟩
    obtain ⟨oj', hj'⟩ := key j oj hj
    obtain ⟨ok', hk'⟩ := key k ok hk
    exact h.apart j k oj' ok' g hj' hk'
theorem nodup_set {α β : Type} {f : α → β} {l : List α} {j : Nat} {q r : α} (hj : l[j]? = some q) (e : f r = f q) : (l.set j r).map f = l.map f := by
  rw [List.map_set]
  refine List.ext_getElem? fun i => ?_
  rw [List.getElem?_set]
  split
  · rename_i h
    subst h
    have hlt := (List.getElem?_eq_some_iff.1 hj).1
    rw [List.length_map, if_pos hlt, List.getElem?_map, hj, Option.map_some, e]
  · rfl
theorem MapOk.put {clock c' : Nat} {l l' : List ME} {k : Value} {dv : D} (h : MapOk t clock l) (hk : KeyOk t k) (hp : Put clock l k dv c' l') : MapOk t c' l' := by
  cases hp with
  | old j n d0 hj =>
    refine ⟨by rw [nodup_set (f := fun q : ME => q.1) (r := (n, k, dv)) hj rfl]; exact h.nodup, fun q hq => ?_, by rw [nodup_set (f := fun q : ME => q.2.1) (r := (n, k, dv)) hj rfl]; exact h.keys, fun q hq => ?_⟩
    · rcases List.mem_or_eq_of_mem_set hq with hq | rfl
      · exact h.lt q hq
      · exact h.lt (n, k, d0) (List.mem_of_getElem? hj)
    · rcases List.mem_or_eq_of_mem_set hq with hq | rfl
      · exact h.ok q hq
      · exact hk
  | new hn =>
    refine ⟨?_, fun q hq => ?_, ?_, fun q hq => ?_⟩
    · rw [List.map_append, List.nodup_append]
      refine ⟨h.nodup, by simp, fun a ha b hb => ?_⟩
      obtain ⟨q, hq, rfl⟩ := List.mem_map.1 ha
      simp at hb
      have := h.lt q hq
      omega
    · rcases List.mem_append.1 hq with hq | hq
      · have := h.lt q hq
        omega
      · simp at hq
        subst hq
        exact Nat.lt_succ_self _
    · rw [List.map_append, List.nodup_append]
      refine ⟨h.keys, by simp, fun a ha b hb => ?_⟩
      obtain ⟨q, hq, rfl⟩ := List.mem_map.1 ha
      simp at hb
      rw [hb]
      exact hn q hq
    · rcases List.mem_append.1 hq with hq | hq
      · exact h.ok q hq
      · simp at hq
        subst hq
        exact hk
set_option maxRecDepth 20000 in
/-- m[k] = v: what it leaves. -/
theorem mapup_now (h : Good E sl ob a w Pr β κ) (M : MapT t kt et z zv) {i clock c' : Nat} {l l' : List ME} {k : Value} {dv : D} (hx : ev sl x = .mp i) (hf : find ob i = some (.map t clock l)) (hy : keyV (ev sl y) = some k) (hk : KeyOk t k) (hc : ToD ob (ev sl c) dv) (hp : Put clock l k dv c' l') :
    ∃ b q, (execOp a.eval ⟨none, .mapUpdate t x y c, T, p, af, g⟩).run Tryd.prog w = .ok .skip (setBlock w b q) ∧ blk (β i) = some b ∧ (∀ o, ¬ Pr b o) ∧ (∃ q0, w.heap[b]? = some q0) ∧ Good E sl ((i, .map t c' l') :: ob) a (setBlock w b q) Pr β κ := by
  obtain ⟨gm, es, hav, hb, hh, hes, hok, hrv, hno, _⟩ := map_at h hx hf
  have hkv : a.eval y = k := keyV_rep (good_ev h y) hy
  have hcv := toD_rep h hc _ (good_ev h c)
  obtain ⟨lit, hlit⟩ := hk.lit M
  have hbb : blk (β i) = some gm := by rw [hb]; rfl
  have hok' := hok.put hk hp
  cases hp with
  | old j n d0 hj =>
    obtain ⟨e, he, h1, h2, h3⟩ := map_hit hes hok M hk hj
    have hst : (Instr.keyThatStays e.key k).run Tryd.prog w = .ok k w := by rw [h2]; exact M.K.stays w hlit
    have hjl : j < es.length := (List.getElem?_eq_some_iff.1 he).1
    refine ⟨gm, .map (es.set j { e with key := k, val := a.eval c }).toArray clock, ?_, hbb, hno, ⟨_, hh⟩, ?_⟩
    · have hmod : es.toArray.modify j (fun e => { e with key := k, val := a.eval c }) = (es.set j { e with key := k, val := a.eval c }).toArray := by
        apply Array.ext'
        rw [Array.toList_modify]
        simp only [List.toList_toArray]
        refine List.ext_getElem? fun i => ?_
        rw [List.getElem?_modify, List.getElem?_set]
        split
        · rename_i hji
          subst hji
          rw [he]
          rfl
        · simp
      simp only [execOp, hav, hkv, Instr.mapUpdate]
      simp only [Sem.run_bind, run_underlying M.u, Result.andThen, MapKept.run_getObj_map hh, M.K.check w false hlit, h3 w, List.getElem?_toArray, he, Option.map_some, Option.getD_some, hst, MapKept.run_setObj_map _ hh, hmod]
      rfl
    · refine h.setblk hf hbb hno hh (fun _ hkeep => ⟨gm, _, hb, Nat.zero_le _, (MapKept.heap_set hh).1, ⟨?_, hok'⟩, fun j' x q h4 h5 => hkeep _ _ ?_, hno⟩)
      · show Ents _ _
        unfold Ents
        rw [nodup_set (f := fun x : MapEntry => (x.born, x.key)) he (by simp [h2]), nodup_set (f := fun q : ME => (q.1, q.2.1)) (r := (n, k, dv)) hj rfl]
        exact hes
      · by_cases hjj : j = j'
        · subst hjj
          rw [List.getElem?_set_self hjl] at h4
          rw [List.getElem?_set_self (by rw [← hes.len]; exact hjl)] at h5
          cases h4
          cases h5
          exact hcv
        · rw [List.getElem?_set_ne hjj] at h4 h5
          exact hrv j' x q h4 h5
  | new hn =>
    refine ⟨gm, .map (es ++ [({ key := k, val := a.eval c, born := clock } : MapEntry)]).toArray (clock + 1), ?_, hbb, hno, ⟨_, hh⟩, ?_⟩
    · simp only [execOp, hav, hkv, Instr.mapUpdate]
      simp [run_underlying M.u, MapKept.run_getObj_map hh, M.K.check w false hlit, map_miss hes hok M hk hn w, MapKept.run_setObj_map _ hh, Result.andThen, setBlock]
    · refine h.setblk hf hbb hno hh (fun _ hkeep => ⟨gm, _, hb, Nat.zero_le _, (MapKept.heap_set hh).1, ⟨?_, hok'⟩, fun j' x q h4 h5 => hkeep _ _ ?_, hno⟩)
      · show Ents _ _
        unfold Ents
        rw [List.map_append, List.map_append, hes]
        rfl
      · rw [List.getElem?_append] at h4 h5
        rw [← hes.len] at h5
        split at h4
        · rename_i hjj
          rw [if_pos hjj] at h5
          exact hrv j' x q h4 h5
        · rename_i hjj
          rw [if_neg hjj] at h5
          generalize j' - es.length = m at h4 h5
          cases m with
          | zero => simp at h4 h5; subst h4 h5; exact hcv
          | succ m => simp at h4
set_option maxRecDepth 20000 in
theorem st_mapup (M : MapT t kt et z zv) {i clock c' : Nat} {l l' : List ME} {k : Value} {dv : D} (hx : ev sl x = .mp i) (hf : find ob i = some (.map t clock l)) (hy : keyV (ev sl y) = some k) (hk : KeyOk t k) (hc : ToD ob (ev sl c) dv) (hp : Put clock l k dv c' l') :
    Step E ⟨none, .mapUpdate t x y c, T, p, af, g⟩ sl ob sl ((i, .map t c' l') :: ob) := by
  rintro a w ⟨Pr, β, κ, h⟩ K Q hK
  obtain ⟨b, q, hrun, _, _, _, hG⟩ := mapup_now (T := T) (p := p) (af := af) (g := g) h M hx hf hy hk hc hp
  unfold Oper.wp
  rw [hrun, Oper.upon_skip]
  exact hK _ _ ⟨Pr, β, κ, hG⟩
set_option maxRecDepth 20000 in
/-- map[K]V{} -/
theorem st_makemap (hd : d < E.n) (hno : noneOf d sl ob = true) : Step E ⟨some d, .makeMap t none, T, p, af, g⟩ sl ob ((d, .mp d) :: sl) ((d, .map t 0 []) :: ob) := by
  rintro a w ⟨Pr, β, κ, h⟩ K Q hK
  have hrun : (execOp a.eval ⟨some d, .makeMap t none, T, p, af, g⟩).run Tryd.prog w = .ok (.value (.map (some w.heap.size))) (w.alloc (.map #[] 0)) := by
    simp [execOp, Instr.makeMap, newObj, Sem.run]
  unfold Oper.wp
  rw [hrun, Oper.upon_value]
  have hx : Below w.heap.size w (w.alloc (.map #[] 0)) := (Below.refl _ _).alloc (Nat.le_refl _) _
  have hG := h.newobjG (o := .map t 0 []) (x := .mp d) (u := .map (some w.heap.size)) hd hno (Pr' := Pr) (v := .map (some w.heap.size)) hx (fun _ _ h => h) (fun _ _ h => .inl h) (fun g hg => by simp [blk] at hg; omega)
    (fun β' κ' e1 e2 e3 e4 => ⟨w.heap.size, [], e1, Nat.zero_le _, heap_alloc_new w _, ⟨rfl, ⟨by simp, by simp, by simp, by simp⟩⟩, fun j x q h1 h2 => by simp at h1, fun o ho => by have := h.prl _ _ ho; omega⟩)
    (fun β' κ' e1 _ _ _ => .mp d _ e1)
  exact hK _ _ ⟨_, _, _, hG⟩
theorem run_wide (h : Good E sl ob a w Pr β κ) : Good E sl ob a w.drew Pr β κ := h.grow (Below.refl _ _).drew (fun _ _ h => h) (fun _ _ h => .inl h)
theorem MapOk.del {clock : Nat} {l l' : List ME} {k : Value} (h : MapOk t clock l) (hp : Del l k l') : MapOk t clock l' := by
  cases hp with
  | no _ => exact h
  | old j n d0 hj =>
    have hs : (l.eraseIdx j).Sublist l := List.eraseIdx_sublist _ _
    exact ⟨h.nodup.sublist (hs.map _), fun q hq => h.lt q (hs.subset hq), h.keys.sublist (hs.map _), fun q hq => h.ok q (hs.subset hq)⟩
set_option maxRecDepth 20000 in
/-- delete(m, k): what it leaves -/
theorem delete_now (h : Good E sl ob a w Pr β κ) (dd : Option Nat) (M : MapT t kt et z zv) {i clock : Nat} {l l' : List ME} {k : Value} {A : Array TypeId} (hx : ev sl x = .mp i) (hf : find ob i = some (.map t clock l)) (hy : keyV (ev sl y) = some k) (hk : KeyOk t k) (hA : A = #[t, kt]) (hp : Del l k l') :
    ∃ w', (execOp a.eval ⟨dd, .call { callee := .builtin .delete, args := #[x, y], argTypes := A }, T, p, af, g⟩).run Tryd.prog w = .ok (.value (.tuple #[])) w' ∧ Good E sl ((i, .map t clock l') :: ob) a w' Pr β κ := by
  subst hA
  obtain ⟨gm, es, hav, hb, hh, hes, hok, hrv, hno, _⟩ := map_at h hx hf
  have hkv : a.eval y = k := keyV_rep (good_ev h y) hy
  obtain ⟨lit, hlit⟩ := hk.lit M
  have hbb : blk (β i) = some gm := by rw [hb]; rfl
  have hok' := hok.del hp
  have key : ∃ es' : List MapEntry, (execOp a.eval ⟨dd, .call { callee := .builtin .delete, args := #[x, y], argTypes := #[t, kt] }, T, p, af, g⟩).run Tryd.prog w = .ok (.value (.tuple #[])) (setBlock w gm (.map es'.toArray clock)) ∧ Ents es' l' ∧
      ∀ (j : Nat) (x : MapEntry) (q : ME), es'[j]? = some x → l'[j]? = some q → RepD w Pr x.val q.2.2 := by
    cases hp with
    | old j n d0 hj =>
      obtain ⟨e, he, h1, h2, h3⟩ := map_hit hes hok M hk hj
      have hjl : j < es.length := (List.getElem?_eq_some_iff.1 he).1
      have her : es.toArray.eraseIdxIfInBounds j = (es.eraseIdx j).toArray := by
        unfold Array.eraseIdxIfInBounds
        rw [dif_pos (by simpa using hjl)]
        apply Array.ext'
        simp
      refine ⟨es.eraseIdx j, ?_, ?_, fun j' x q h4 h5 => ?_⟩
      · simp [execOp, hav, hkv, resolve, invoke, builtin, Builtin.delete_, run_underlying M.u, MapKept.run_getObj_map hh, M.K.check w _ hlit, h3 w, MapKept.run_setObj_map _ hh, Result.andThen, setBlock, her]
      · show Ents _ _
        unfold Ents
        rw [map_eraseIdx, map_eraseIdx, show es.map (fun x => (x.born, x.key)) = l.map (fun q => (q.1, q.2.1)) from hes]
      · rw [List.getElem?_eraseIdx] at h4 h5
        split at h4
        · rename_i hjj
          rw [if_pos hjj] at h5
          exact hrv _ x q h4 h5
        · rename_i hjj
          rw [if_neg hjj] at h5
          exact hrv _ x q h4 h5
    | no hn =>
      refine ⟨es, ?_, hes, hrv⟩
      simp [execOp, hav, hkv, resolve, invoke, builtin, Builtin.delete_, run_underlying M.u, MapKept.run_getObj_map hh, M.K.check w _ hlit, map_miss hes hok M hk hn w, MapKept.run_setObj_map _ hh, Result.andThen, setBlock]
  obtain ⟨es', hrun, hes', hrv'⟩ := key
  have hG := h.setblk (o' := .map t clock l') hf hbb hno hh (q := .map es'.toArray clock) (fun _ hkeep => ⟨gm, es', hb, Nat.zero_le _, (MapKept.heap_set hh).1, ⟨hes', hok'⟩, fun j x q h4 h5 => hkeep _ _ (hrv' j x q h4 h5), hno⟩)
  exact ⟨_, hrun, hG⟩
set_option maxRecDepth 20000 in
/-- delete(m, k) -/
theorem st_delete (M : MapT t kt et z zv) {i clock : Nat} {l l' : List ME} {k : Value} {A : Array TypeId} (hx : ev sl x = .mp i) (hf : find ob i = some (.map t clock l)) (hy : keyV (ev sl y) = some k) (hk : KeyOk t k) (hA : A = #[t, kt]) (hp : Del l k l') :
    Step E ⟨none, .call { callee := .builtin .delete, args := #[x, y], argTypes := A }, T, p, af, g⟩ sl ob sl ((i, .map t clock l') :: ob) := by
  rintro a w ⟨Pr, β, κ, h⟩ K Q hK
  obtain ⟨w', hrun, hG⟩ := delete_now (T := T) (p := p) (af := af) (g := g) h none M hx hf hy hk hA hp
  unfold Oper.wp
  rw [hrun, Oper.upon_value]
  exact hK _ _ ⟨Pr, β, κ, Good.put' hG rfl⟩
set_option maxRecDepth 20000 in
/-- range m -/
theorem st_range (M : MapT t kt et z zv) {i clock : Nat} {l : List ME} (hx : ev sl x = .mp i) (hf : find ob i = some (.map t clock l)) (hd : d < E.n) (hno : noneOf d sl ob = true) (hdi : d ≠ i) : Step E ⟨some d, .range t x, T, p, af, g⟩ sl ob ((d, .box d 0) :: sl) ((d, .iter (.mp i) clock [] clock) :: ob) := by
  rintro a w ⟨Pr, β, κ, h⟩ K Q hK
  obtain ⟨gm, es, hav, hb, hh, hes, hok, hrv, hnp, _⟩ := map_at h hx hf
  have hrun : (execOp a.eval ⟨some d, .range t x, T, p, af, g⟩).run Tryd.prog w = .ok (.value (.pointer (some ⟨w.heap.size, 0, none⟩))) (w.alloc (.mapIter (some gm) clock #[] clock)) := by
    have := run_range_map (P := Tryd.prog) w t kt et gm es.toArray clock M.u hh
    simp [execOp, hav, this]
  unfold Oper.wp
  rw [hrun, Oper.upon_value]
  have hx' : Below w.heap.size w (w.alloc (.mapIter (some gm) clock #[] clock)) := (Below.refl _ _).alloc (Nat.le_refl _) _
  have hG := h.newobjG (o := .iter (.mp i) clock [] clock) (x := .box d 0) (u := .pointer (some ⟨w.heap.size, 0, none⟩)) hd hno (Pr' := Pr) (v := .pointer (some ⟨w.heap.size, 0, none⟩)) hx' (fun _ _ h => h) (fun _ _ h => .inl h) (fun g hg => by simp [blk] at hg; omega)
    (fun β' κ' e1 e2 e3 e4 => ⟨w.heap.size, gm, e1, Nat.zero_le _, heap_alloc_new w _, .mp i gm ((e3 i hdi.symm).trans hb), fun o ho => by have := h.prl _ _ ho; omega⟩)
    (fun β' κ' e1 _ _ _ => .box d 0 _ e1)
  exact hK _ _ ⟨_, _, _, hG⟩
theorem trip_rep {u v : Value} {q r : D} (h1 : RepD w Pr u q) (h2 : RepD w Pr v r) : RepD w Pr (.tuple #[.bool true, u, v]) (.tup [.bool true, q, r]) :=
  .tup [.bool true, u, v] [D.bool true, q, r] rfl (fun i v d h3 h4 => by
    match i with
    | 0 => simp at h3 h4; subst h3 h4; exact .val _
    | 1 => simp at h3 h4; subst h3 h4; exact h1
    | 2 => simp at h3 h4; subst h3 h4; exact h2
    | i + 3 => simp at h3)
theorem iter_at (h : Good E sl ob a w Pr β κ) {r i since c0 : Nat} {seen : List Nat} (hx : ev sl x = .box r 0) (hr : find ob r = some (.iter (.mp i) since seen c0)) :
    ∃ gr gm, a.eval x = .pointer (some ⟨gr, 0, none⟩) ∧ β r = .pointer (some ⟨gr, 0, none⟩) ∧ w.heap[gr]? = some (.mapIter (some gm) since seen.toArray c0) ∧ β i = .map (some gm) ∧ ∀ o, ¬ Pr gr o := by
  have hv := good_ev h x
  rw [hx] at hv
  generalize a.eval x = v at hv
  cases hv with
  | box _ _ b hb =>
    obtain ⟨b', gm, hb', hB, hh, hv, hno⟩ := h.objs r _ hr
    rw [hb'] at hb
    simp only [Value.pointer.injEq, Option.some.injEq, Addr.mk.injEq, and_true] at hb
    subst hb
    cases hv with
    | mp _ _ hm => exact ⟨b', gm, rfl, hb', hh, hm, hno⟩
set_option maxRecDepth 20000 in
/-- The next entry, whichever comes. -/
theorem al_next {i r since c0 clock : Nat} {seen : List Nat} {l : List ME} {ops : Array Oper} {rest : List Oper} {Q : Exit → Act → World → Prop} (hx : ev sl x = .box r 0) (hr : find ob r = some (.iter (.mp i) since seen c0)) (hf : find ob i = some (.map t clock l)) (hold : ∀ q ∈ l, q.1 < since) (hsc : since ≤ c0) (hd : d < E.n)
    (h0 : (∀ q ∈ l, q.1 ∈ seen) → AL E ops rest Q ((d, .d (.tup [.bool false])) :: sl) ob)
    (h1 : ∀ q ∈ l, q.1 ∉ seen → AL E ops rest Q ((d, .d (.tup [.bool true, keyD q.2.1, q.2.2])) :: sl) ((r, .iter (.mp i) since (seen ++ [q.1]) clock) :: ob)) :
    AL E ops (⟨some d, .next x false, T, p, af, none⟩ :: rest) Q sl ob := by
  refine ⟨fun a w hi => ?_⟩
  obtain ⟨Pr, β, κ, h⟩ := hi
  obtain ⟨gr, gm, hav, hbr, hh, hbm, hno⟩ := iter_at h hx hr
  obtain ⟨gm', es, hbm', hB, hhm, ⟨hes, hok⟩, hrv, hnm⟩ := h.objs i _ hf
  rw [hbm'] at hbm
  simp only [Value.map.injEq, Option.some.injEq] at hbm
  subst hbm
  refine wpList_plain rfl fun K hKK => ?_
  have hes' : Ents es l := hes
  rcases run_next_at (P := Tryd.prog) w T gr gm' since c0 seen.toArray es.toArray clock hh hhm (fun x hx => by
    obtain ⟨j, hj⟩ := List.mem_iff_getElem?.1 hx
    obtain ⟨q, hq, e, _⟩ := hes'.put (by simpa using hj)
    rw [e]
    exact hold q (List.mem_of_getElem? hq)) hsc with ⟨hz, hrun⟩ | ⟨e, he, w1, hal, hrun⟩
  · have hrun2 : (execOp a.eval ⟨some d, .next x false, T, p, af, none⟩).run Tryd.prog w = .ok (.value (.tuple #[.bool false])) w := by simp [execOp, hav, hrun]
    unfold Oper.wp
    rw [hrun2, Oper.upon_value]
    refine hKK _ _ ((h0 fun q hq => ?_).run _ _ ⟨Pr, β, κ, h.put hd (.d _ _ (.tup [.bool false] [D.bool false] rfl (fun i v d h3 h4 => by
      match i with
      | 0 => simp at h3 h4; subst h3 h4; exact .val _
      | i + 1 => simp at h3)))⟩)
    obtain ⟨j, hj⟩ := List.mem_iff_getElem?.1 hq
    obtain ⟨y, hy, e, _⟩ := hes'.get hj
    have := all_seen es.toArray seen.toArray hz y (by simpa using List.mem_of_getElem? hy)
    rw [e] at this
    simpa using this
  · obtain ⟨hem, hens⟩ := mem_left he
    have hem' : e ∈ es := by simpa using hem
    obtain ⟨j, hj⟩ := List.mem_iff_getElem?.1 hem'
    obtain ⟨q, hq, e1, e2⟩ := hes'.put hj
    have hw1 : Good E sl ob a w1 Pr β κ := by
      rcases hal with rfl | rfl
      · exact h
      · exact run_wide h
    have hh1 : w1.heap[gr]? = some (.mapIter (some gm') since seen.toArray c0) := by rcases hal with rfl | rfl <;> exact hh
    have hrun2 : (execOp a.eval ⟨some d, .next x false, T, p, af, none⟩).run Tryd.prog w = .ok (.value (.tuple #[.bool true, e.key, e.val])) (setBlock w1 gr (.mapIter (some gm') since (seen.toArray.push e.born) clock)) := by simp [execOp, hav, hrun]
    unfold Oper.wp
    rw [hrun2, Oper.upon_value]
    have hpush : seen.toArray.push e.born = (seen ++ [q.1]).toArray := by rw [e1]; simp
    rw [hpush]
    have hG := hw1.setblk (o' := .iter (.mp i) since (seen ++ [q.1]) clock) hr (b := gr) (by rw [hbr]; rfl) hno hh1 (q := .mapIter (some gm') since (seen ++ [q.1]).toArray clock) (fun _ _ => ⟨gr, gm', hbr, Nat.zero_le _, (MapKept.heap_set hh1).1, .mp i gm' hbm', hno⟩)
    have hst : Stays Pr w1 (setBlock w1 gr (.mapIter (some gm') since (seen ++ [q.1]).toArray clock)) := fun b' r' hr' => World.cell?_of_block (a := ⟨b', r', none⟩) ((MapKept.heap_set hh1).2 b' (by rintro rfl; exact hno r' hr'))
    have hst0 : Stays Pr w w1 := by rcases hal with rfl | rfl <;> exact fun _ _ _ => rfl
    have hv : RepD (setBlock w1 gr (.mapIter (some gm') since (seen ++ [q.1]).toArray clock)) Pr e.val q.2.2 := ((hrv j e q hj hq).keep hst0 (fun _ _ h => h)).keep hst (fun _ _ h => h)
    have hgo := h1 q (List.mem_of_getElem? hq) (by
      rw [e1] at hens
      simpa using hens)
    exact hKK _ _ (hgo.run _ _ ⟨Pr, β, κ, hG.put hd (.d _ _ (trip_rep (by rw [e2]; exact keyD_rep _ _ _) hv))⟩)
set_option maxRecDepth 20000 in
/-- The entry, read behind the step. -/
theorem y_entry {i r since c0 clock n j : Nat} {seen : List Nat} {l : List ME} {k : Value} {dv : D} (hx : ev sl x = .box r 0) (hr : find ob r = some (.iter (.mp i) since (seen ++ [n]) clock)) (hf : find ob i = some (.map t clock l)) (hj : l[j]? = some (n, k, dv)) :
    Y E ⟨dd, .entry x, T, p, af, g⟩ sl ob (.d (.tup [keyD k, dv])) := fun a w Pr β κ h => by
  have _ := c0
  obtain ⟨gr, gm, hav, hbr, hh, hbm, hno⟩ := iter_at h hx hr
  obtain ⟨gm', es, hbm', hB, hhm, ⟨hes, hok⟩, hrv, hnm⟩ := h.objs i _ hf
  rw [hbm'] at hbm
  simp only [Value.map.injEq, Option.some.injEq] at hbm
  subst hbm
  have hes' : Ents es l := hes
  obtain ⟨e, he, e1, e2⟩ := hes'.get hj
  have e1 : e.born = n := e1
  have e2 : e.key = k := e2
  refine ⟨.tuple #[e.key, e.val], .d _ _ (pair_rep (by rw [e2]; exact keyD_rep _ _ _) (hrv j e _ he hj)), fun w' hk' => ?_⟩
  have hh' : w'.heap[gr]? = some (.mapIter (some gm') since (seen.toArray.push e.born) clock) := by
    rw [(hk'.objs r _ gr hr (by rw [hbr]; rfl)).trans hh, e1]
    simp
  have hhm' := (hk'.objs i _ gm' hf (by rw [hbm']; rfl)).trans hhm
  have hborn : (es.map (·.born)).Nodup := by
    have : es.map (·.born) = l.map (·.1) := by
      have := congrArg (List.map Prod.fst) hes'
      simpa [Function.comp_def] using this
    rw [this]
    exact hok.nodup
  have := run_entry_at (P := Tryd.prog) w' gr gm' since seen.toArray es.toArray clock e hh' hhm' (by simpa using List.mem_of_getElem? he) (by simpa using hborn)
  simp [execOp, hav, this]
end
section
variable {E : Entry} {sl sl0 : Slots} {ob ob0 : Objs} {ops : List Oper} {pl : List (Nat × Bool × Oper)} {Q : Exit → Act → World → Prop} {tail : (World → Prop) → Act → World → Prop} {g : Option (Nat × Bool)} {p : String} {af : Array Edge} {T ty t : TypeId} {d n : Nat}
set_option maxRecDepth 20000 in
/-- An append onto a row that does not stand. -/
theorem am_append {x y : Operand} {i k e es eb : Nat} {ez : Value} {l l2 : List (List D)} {A : Array TypeId} (hw : Want ops sl true g) (hx : ev sl x = .row i k) (hf : find ob i = some (.row e es k l)) (hk0 : find ob0 i = none) (hy : ToD ob (ev sl y) (.list es l2)) (hA : A = #[t, t]) (hT : ti t = .sl e es eb ez)
    (h1 : ∀ q ∈ l2, ∀ z ∈ q, D.one z = true) (hes : 0 < es) (hb : (l.length + l2.length) * eb ≤ 140737488355328) (hm : l.length + l2.length ≤ 140737488355328) (hd : d < E.n)
    (hK : AM E ops tail Q pl ((d, .und) :: sl0) ob0 ((d, .row i (k + 1)) :: sl) ((i, .row e es (k + 1) (l ++ l2)) :: ob)) :
    AM E ops tail Q ((n, false, ⟨some d, .call { callee := .builtin .append, args := #[x, y], argTypes := A }, T, p, af, g⟩) :: pl) sl0 ob0 sl ob := by
  subst hA
  refine ⟨fun a w0 w Pr Pr1 β β1 κ κ1 h0 h hnw => ?_⟩
  refine mix_move (hw.is h) (fun K hKK => ?_)
  obtain ⟨v', w', Pr', β', κ', hrun, hG, hp, hs, e3, e4, hlt, hbs, hgr⟩ := app_now (o := ⟨some d, .call { callee := .builtin .append, args := #[x, y], argTypes := #[t, t] }, T, p, af, g⟩) (l2 := l2) h hf hd (fun xs hown => by
    obtain ⟨hκ, _⟩ := h.objs i _ hf
    have hxv : a.eval x = β1 i := by
      have := good_ev h x
      rw [hx] at this
      exact this.row_inv hκ.symm
    have hyv := toD_rep h hy _ (good_ev h y)
    obtain ⟨v', w', news, hrun, hown', hgr, hoff, hkeep, hnl, hl2, hnr⟩ := run_app (T := T) (κ := κ1) h hown hyv hT h1 hes hb hm
    exact ⟨v', w', news, by simp [execOp, resolve, invoke, builtin, hxv, hrun], hown', hgr, hoff, hkeep, hnl, hl2, hnr⟩)
  unfold Oper.wp
  rw [hrun, Oper.upon_value]
  have hbb : blk (β1 i) = (β1 i).ownBlock := by obtain ⟨_, _, _, q⟩ := hbs; exact ownBlock_blk q
  have hne : ∀ j o, find ob0 j = some o → j ≠ i := fun j o hj q => by rw [q, hk0] at hj; cases hj
  have hkept : Kept Pr β ob0 w0 w' := hnw.kept.trans (Pr1 := Pr1) ⟨hs, fun j o g h2 h3 => by
    have h4 := hnw.sub j o h2
    have hlt := ((h.objs j o h4.1).blkLt g (by rw [h4.2]; exact h3)).2
    refine hgr.block g hlt (fun q => hne j o h2 ?_)
    exact h.apart j i o _ g h4.1 hf (by rw [h4.2]; exact h3) (by rw [hbb]; exact q.symm), hgr.size⟩ hnw.pr
  refine hKK.out _ _ hkept fun _ => ?_
  refine hK.run _ w0 _ Pr Pr' _ _ _ _ (h0.put hd (.und _)) hG ⟨hkept, fun b o ho => hp b o (hnw.pr b o ho), hnw.then_.trans (fun j => ?_), fun j o hj => ?_⟩
  · by_cases hj : j = i
    · subst hj
      exact .inr ⟨hlt, hbs⟩
    · exact .inl ⟨e3 j hj, e4 j hj⟩
  · have h4 := hnw.sub j o hj
    have hji := hne j o hj
    exact ⟨by rw [find_ne hji]; exact h4.1, (e3 j hji).trans h4.2⟩
end
section
variable {E : Entry} {sl : Slots} {ob : Objs} {a : Act} {w : World} {Pr : Prot} {β : Nat → Value} {κ : Nat → Nat}
variable {d : Nat} {t T ty : TypeId} {p : String} {af : Array Edge} {g : Option (Nat × Bool)} {x y c : Operand}
/-- The operation hands back a value that shows x, in whatever world. -/
def Yw (E : Entry) (o : Oper) (sl : Slots) (ob : Objs) (x : V) : Prop :=
  ∀ a w Pr β κ, Good E sl ob a w Pr β κ → ∃ v, RepV w Pr β κ v x ∧ ∀ w', (execOp a.eval o).run Tryd.prog w' = .ok (.value v) w'
theorem yw_y {o : Oper} {x : V} (h : Yw E o sl ob x) : Y E o sl ob x := fun a w Pr β κ hg => by
  obtain ⟨v, h1, h2⟩ := h a w Pr β κ hg
  exact ⟨v, h1, fun w' _ => h2 w'⟩
/-- the parts of a struct literal, of one cell each -/
inductive PartsS (sl : Slots) (fs : List (Nat × Nat × Nat)) : List (Nat × Operand) → List (Nat × V) → Prop where
  | nil : PartsS sl fs [] []
  | cons {i off ft : Nat} {x : Operand} {xs : List (Nat × Operand)} {v : V} {vs : List (Nat × V)} (hf : fs[i]? = some (off, 1, ft)) (h : Cf (ev sl x) v) (h1 : v.one = true) (hr : PartsS sl fs xs vs) : PartsS sl fs ((i, x) :: xs) ((off, v) :: vs)
def sfill (l : List V) : List (Nat × V) → List V
  | [] => l
  | (o, v) :: r => sfill (l.set o v) r
theorem sfill_rep (h : Good E sl ob a w Pr β κ) {fs : List (Nat × Nat × Nat)} : ∀ {parts : List (Nat × Operand)} {ps : List (Nat × V)}, PartsS sl fs parts ps → ∀ {cs : Array Value} {l : List V}, cs.toList.length = l.length → (∀ (j : Nat) (u : Value) (z : V), cs.toList[j]? = some u → l[j]? = some z → RepV w Pr β κ u z) →
    (∀ q ∈ ps, q.1 < l.length) →
    ∃ cs', Instr.fill (fun i => (fs[i]?).map fun q => (q.1, q.2.1)) cs (parts.map fun q => (q.1, a.eval q.2)) = some cs' ∧ cs'.toList.length = (sfill l ps).length ∧ ∀ (j : Nat) (u : Value) (z : V), cs'.toList[j]? = some u → (sfill l ps)[j]? = some z → RepV w Pr β κ u z := by
  intro parts ps hp
  induction hp with
  | nil => intro cs l hl hr _; exact ⟨cs, rfl, hl, hr⟩
  | @cons i off ft x xs v vs hf hc h1 _ ih =>
    intro cs l hl hr hb
    have hv : RepV w Pr β κ (a.eval x) v := hc.eq ▸ good_ev h x
    have hcell := one_cells (one_cell hv h1)
    have hoff : off < l.length := hb (off, v) (by simp)
    obtain ⟨cs', k1, k2, k3⟩ := ih (cs := cs.setIfInBounds off (a.eval x)) (l := l.set off v) (by simpa using hl) (fun j u z h3 h4 => by
      rw [Array.toList_setIfInBounds] at h3
      by_cases hj : off = j
      · subst hj
        rw [List.getElem?_set_self (by omega)] at h3
        rw [List.getElem?_set_self hoff] at h4
        cases h3
        cases h4
        exact hv
      · rw [List.getElem?_set_ne hj] at h3 h4
        exact hr j u z h3 h4) (fun q hq => by simpa using hb q (by simp [hq]))
    refine ⟨cs', ?_, k2, k3⟩
    simp only [List.map_cons, Instr.fill, hf, Option.map_some, hcell]
    rw [if_neg (by simp at hl ⊢; omega)]
    exact k1
set_option maxRecDepth 20000 in
/-- A struct literal that has objects in it. -/
theorem yw_buildS {dd : Option Nat} {z : List Value} {fs : List (Nat × Nat × Nat)} {parts : List (Nat × Operand)} {ps : List (Nat × V)} {l : List V} (hT : ti t = .st z fs) (hp : PartsS sl fs parts ps) (hb : (ps.all fun q => Nat.blt q.1 z.length) = true) (hl : sfill (z.map fun v => .d (.val v)) ps = l) :
    Yw E ⟨dd, .build t parts.toArray, T, p, af, g⟩ sl ob (.agg l) := fun a w Pr β κ h => by
  subst hl
  obtain ⟨i, F, h1, h2, h3, h4, h5⟩ := ti_st hT
  obtain ⟨cs, hf, k1, k2⟩ := sfill_rep h hp (cs := z.toArray) (l := z.map fun v => .d (.val v)) (by simp) (fun j u y h6 h7 => by
    simp only [List.getElem?_map, Option.map_eq_some_iff] at h7
    obtain ⟨y', h8, rfl⟩ := h7
    have : u = y' := by simpa [h8] using h6.symm
    subst this
    exact .d _ _ (.val _)) (fun q hq => by have := List.all_eq_true.1 hb q hq; simpa [Nat.blt_eq] using this)
  refine ⟨.agg cs, ?_, fun w' => ?_⟩
  · have := RepV.agg (w := w) (Pr := Pr) (β := β) (κ := κ) cs.toList _ k1 k2
    simpa using this
  · have hpl : F.toList.mapM (fun f => (Tryd.prog.info? f.type).map fun i => (f.offset, i.size)) = some (fs.map fun q => (q.1, q.2.1)) := by
      have key : ∀ (F : List Field) (fs : List (Nat × Nat × Nat)), F.mapM (fun f => (Tryd.prog.info? f.type).map fun j => (f.offset, j.size, f.type)) = some fs → F.mapM (fun f => (Tryd.prog.info? f.type).map fun i => (f.offset, i.size)) = some (fs.map fun q => (q.1, q.2.1)) := by
        intro F
        induction F with
        | nil => intro fs h; simp at h; subst h; rfl
        | cons f F ih =>
          intro fs h
          rw [List.mapM_cons] at h ⊢
          cases hx : Tryd.prog.info? f.type with
          | none => rw [hx] at h; simp at h
          | some j =>
            rw [hx] at h
            cases hy : F.mapM (fun f => (Tryd.prog.info? f.type).map fun j => (f.offset, j.size, f.type)) with
            | none => rw [hy] at h; simp at h
            | some r =>
              rw [hy] at h
              simp at h
              subst h
              rw [ih r hy]
              simp
      exact key _ _ h5
    have hb : Tryd.prog.built t (parts.map fun q => (q.1, a.eval q.2)) = some cs := by
      simp only [Program.built, h1, h2, h4, hpl, Value.cells]
      rw [← hf]
      congr 1
      funext i
      simp
    have hr := run_build (P := Tryd.prog) w' t (parts.map fun q => (q.1, a.eval q.2)).toArray cs (by simpa using hb)
    have e : (parts.toArray.map fun x => (x.1, a.eval x.2)) = (parts.map fun q => (q.1, a.eval q.2)).toArray := by simp
    simp only [execOp, e, Sem.run_bind, hr]
    rfl
theorem y_buildS {dd : Option Nat} {z : List Value} {fs : List (Nat × Nat × Nat)} {parts : List (Nat × Operand)} {ps : List (Nat × V)} {l : List V} (hT : ti t = .st z fs) (hp : PartsS sl fs parts ps) (hb : (ps.all fun q => Nat.blt q.1 z.length) = true) (hl : sfill (z.map fun v => .d (.val v)) ps = l) :
    Y E ⟨dd, .build t parts.toArray, T, p, af, g⟩ sl ob (.agg l) := yw_y (yw_buildS hT hp hb hl)
theorem aq_adoptb {x : Exit} {Q : Exit → Act → World → Prop} (i j r e s : Nat) {T : TypeId} {l l' : List V} (hf : find ob i = some (.box T l)) (hx : l[j]? = some (.d (.val (.slice none 0 0)))) (hno : noneOf r sl ob = true) (hr : r < E.n) (hir : Nat.beq i r = false) (hl : l.set j (.row r 0) = l')
    (h : AQ E x Q sl ((i, .box T l') :: (r, .row e s 0 []) :: ob)) : AQ E x Q sl ob := by
  subst hl
  refine ⟨fun a w hi => ?_⟩
  obtain ⟨Pr, β, κ, hg⟩ := hi
  exact h.run a w (hg.adoptb hf hx hno hr (fun e => by rw [e, Nat.beq_refl] at hir; cases hir))
end
section
variable {E : Entry} {sl sl0 : Slots} {ob ob0 : Objs} {ops : List Oper} {pl : List (Nat × Bool × Oper)} {Q : Exit → Act → World → Prop} {tail : (World → Prop) → Act → World → Prop} {g : Option (Nat × Bool)} {p : String} {af : Array Edge} {T ty t : TypeId} {d i : Nat}
end
section
variable {E : Entry} {sl sl0 : Slots} {ob ob0 : Objs} {ops : List Oper} {pl : List (Nat × Bool × Oper)} {Q : Exit → Act → World → Prop} {tail : (World → Prop) → Act → World → Prop} {g : Option (Nat × Bool)} {p : String} {af : Array Edge} {T ty t : TypeId} {d i : Nat}
end
end Go.Proofs.YtfgibalcdjlnhaaDoor
end
section
namespace Go.Proofs.YtfgibalcdjlnhaaDoor
open Go.RowKit

theorem rn1 (i j k : Nat) : rn [(i, j)] k = if k = i then j else k := by
  simp only [rn]
  by_cases h : k = i
  · subst h
    rw [Nat.beq_refl, if_pos rfl]
    rfl
  · rw [nbeq_ne h, if_neg h]
    rfl
def renS (l : List (Nat × Nat)) : Slots → Slots
  | [] => []
  | (k, v) :: r => (k, v.ren l) :: renS l r
theorem look_renS (l : List (Nat × Nat)) : ∀ (sl : Slots) (k : Nat), look (renS l sl) k = (look sl k).ren l
  | [], _ => rfl
  | (n, v) :: r, k => by
    simp only [renS]
    by_cases h : k = n
    · subst h
      rw [look_eq, look_eq]
    · rw [look_ne h, look_ne h]
      exact look_renS l r k
section
variable {w : World} {Pr : Prot} {β β' : Nat → Value} {κ κ' : Nat → Nat} {i j : Nat}
theorem has_ne {k : Nat} (h : Nat.beq j k = false) : k ≠ j := by
  rintro rfl
  rw [Nat.beq_refl] at h
  cases h
theorem RepV.ren1 {v : Value} {x : V} (h : RepV w Pr β κ v x) (hx : x.has j = false) (hb : ∀ k, k ≠ j → β' (rn [(i, j)] k) = β k) (hk : ∀ k, k ≠ j → κ' (rn [(i, j)] k) = κ k) : RepV w Pr β' κ' v (x.ren [(i, j)]) := by
  have sub : ∀ {cs : List Value} {xs : List V}, (∀ (m : Nat) (v : Value) (d : V), cs[m]? = some v → xs[m]? = some d → d.has j = false → RepV w Pr β' κ' v (d.ren [(i, j)])) → V.hasL j xs = false → ∀ (m : Nat) (v : Value) (d : V), cs[m]? = some v → (V.renL [(i, j)] xs)[m]? = some d → RepV w Pr β' κ' v d := by
    intro cs xs ih hw m v d h1 h2
    rw [renL_get, Option.map_eq_some_iff] at h2
    obtain ⟨y, h2, rfl⟩ := h2
    exact ih m v y h1 h2 (hasL_mem hw h2)
  induction h with
  | und v => exact .und v
  | d v z h => exact .d v z h
  | ep b p o z u hr => exact .ep b p o z u hr
  | box m o g h => exact .box _ o g ((hb m (has_ne hx)).trans h)
  | sl m o n c g h hc hm hz => exact .sl _ o n c g ((hb m (has_ne hx)).trans h) hc hm (by rw [hk m (has_ne hx)]; exact hz)
  | mp m g h => exact .mp _ g ((hb m (has_ne hx)).trans h)
  | row m k v hs hk' h => exact .row _ k v hs (by rw [hk m (has_ne hx)]; exact hk') (by rw [hk m (has_ne hx), hb m (has_ne hx)]; exact h)
  | agg cs xs hl hd ih => exact .agg cs _ (by rw [hl, renL_len]) (sub ih hx)
  | clo f cs xs hl hd ih => exact .clo f cs _ (by rw [hl, renL_len]) (sub ih hx)
  | mv f cs xs hl hd ih => exact .mv f cs _ (by rw [hl, renL_len]) (sub ih hx)
  | tup cs xs hl hd ih => exact .tup cs _ (by rw [hl, renL_len]) (sub ih hx)
theorem RepO.ren1 {B k : Nat} {o : O} (h : RepO w Pr B β κ k o) (hk0 : k ≠ j) (ho : o.has j = false) (hb : ∀ k, k ≠ j → β' (rn [(i, j)] k) = β k) (hk : ∀ k, k ≠ j → κ' (rn [(i, j)] k) = κ k) : RepO w Pr B β' κ' (rn [(i, j)] k) (o.ren [(i, j)]) := by
  cases o with
  | box T xs =>
    obtain ⟨g, cs, h1, h2, h3, h4, h5, h6⟩ := h
    refine ⟨g, cs, (hb k hk0).trans h1, h2, h3, by rw [h4, renL_len], fun m v x hm hx => ?_, h6⟩
    rw [renL_get, Option.map_eq_some_iff] at hx
    obtain ⟨y, h7, rfl⟩ := hx
    exact (h5 m v y hm h7).ren1 (hasL_mem ho h7) hb hk
  | row e s n r =>
    obtain ⟨h1, xs, h2, h3, h4, h5⟩ := h
    exact ⟨(hk k hk0).trans h1, xs, by rw [hb k hk0]; exact h2, h3, h4, by rw [hb k hk0]; exact h5⟩
  | vec e s n r =>
    obtain ⟨h1, xs, h2, h3, h4, h5⟩ := h
    exact ⟨(hk k hk0).trans h1, xs, by rw [hb k hk0]; exact h2, h3, h4, by rw [hb k hk0]; exact h5⟩
  | byt e n r =>
    obtain ⟨h1, g, cap, cur, fz, h2, h3⟩ := h
    exact ⟨(hk k hk0).trans h1, g, cap, cur, fz, (hb k hk0).trans h2, h3⟩
  | map T c r =>
    obtain ⟨g, es, h1, h2⟩ := h
    exact ⟨g, es, (hb k hk0).trans h1, h2⟩
  | iter v s n c =>
    obtain ⟨g, gm, h1, h2, h3, h4, h5⟩ := h
    exact ⟨g, gm, (hb k hk0).trans h1, h2, h3, h4.ren1 ho hb hk, h5⟩
end
/-- an object of the new names: which it was -/
theorem find_ren1 {i j : Nat} : ∀ {ob : Objs} {k : Nat} {o : O}, (∀ q ∈ ob, q.1 ≠ j) → find (renO [(i, j)] ob) k = some o → ∃ k' o', k' ≠ j ∧ k = rn [(i, j)] k' ∧ find ob k' = some o' ∧ o = o'.ren [(i, j)]
  | [], _, _, _, h => by cases h
  | (n, x) :: r, k, o, hne, h => by
    simp only [renO] at h
    by_cases hk : k = rn [(i, j)] n
    · subst hk
      rw [find_eq] at h
      cases h
      exact ⟨n, x, hne (n, x) (by simp), rfl, find_eq n x r, rfl⟩
    · rw [find_ne hk] at h
      obtain ⟨k', o', h1, h2, h3, h4⟩ := find_ren1 (fun q hq => hne q (by simp [hq])) h
      refine ⟨k', o', h1, h2, ?_, h4⟩
      rw [find_ne (fun e => hk (by rw [h2, e])), h3]
section
variable {E : Entry} {sl : Slots} {ob : Objs} {a : Act} {w : World} {Pr : Prot} {β : Nat → Value} {κ : Nat → Nat}
theorem Good.ren1 (h : Good E sl ob a w Pr β κ) {i j : Nat} (h0 : find E.ob0 j = none) (hno : noneOf j sl ob = true) : Inv E (renS [(i, j)] sl) (renO [(i, j)] (dropK [j] ob)) a w := by
  let β' : Nat → Value := fun k => if k = j then β i else β k
  let κ' : Nat → Nat := fun k => if k = j then κ i else κ k
  have hb : ∀ k, k ≠ j → β' (rn [(i, j)] k) = β k := fun k hk => by
    rw [rn1]
    by_cases hi : k = i
    · rw [if_pos hi, hi]
      simp [β']
    · rw [if_neg hi]
      simp [β', hk]
  have hk : ∀ k, k ≠ j → κ' (rn [(i, j)] k) = κ k := fun k hk => by
    rw [rn1]
    by_cases hi : k = i
    · rw [if_pos hi, hi]
      simp [κ']
    · rw [if_neg hi]
      simp [κ', hk]
  have hne : ∀ q ∈ dropK [j] ob, q.1 ≠ j := by
    have : ∀ (r : Objs), ∀ q ∈ dropK [j] r, q.1 ≠ j := by
      intro r
      induction r with
      | nil => intro q hq; cases hq
      | cons p r ih =>
        obtain ⟨n, x⟩ := p
        intro q hq
        simp only [dropK] at hq
        cases hm : mem [j] n with
        | true => rw [hm] at hq; exact ih q hq
        | false =>
          rw [hm] at hq
          simp only [cond_false, List.mem_cons] at hq
          rcases hq with rfl | hq
          · intro e
            have e : n = j := e
            rw [e] at hm
            simp [mem] at hm
          · exact ih q hq
    exact this ob
  have hfind : ∀ k o, find (renO [(i, j)] (dropK [j] ob)) k = some o → ∃ k' o', k' ≠ j ∧ k = rn [(i, j)] k' ∧ find ob k' = some o' ∧ o = o'.ren [(i, j)] := fun k o hko => by
    obtain ⟨k', o', h1, h2, h3, h4⟩ := find_ren1 hne hko
    exact ⟨k', o', h1, h2, (find_dropK h3).2, h4⟩
  refine ⟨Pr, β', κ', h.below, h.st0, h.pr0, h.prn, h.prl, h.size, h.defers, fun k => ?_, fun k o hko => ?_, fun k m ok om g h1 h2 h3 h4 => ?_, fun k o g h1 h2 => ?_, fun k o h1 => ?_, h.fresh⟩
  · rw [look_renS]
    exact (h.slots k).ren1 (noneOf_slot hno k) hb hk
  · obtain ⟨k', o', q1, rfl, q3, rfl⟩ := hfind k o hko
    exact (h.objs k' o' q3).ren1 q1 (noneOf_obj hno q3) hb hk
  · obtain ⟨k', o1, q1, rfl, q3, _⟩ := hfind k ok h1
    obtain ⟨m', o2, q4, rfl, q6, _⟩ := hfind m om h2
    rw [hb k' q1] at h3
    rw [hb m' q4] at h4
    rw [h.apart k' m' o1 o2 g q3 q6 h3 h4]
  · obtain ⟨k', o', q1, rfl, q3, _⟩ := hfind k o h1
    rw [hb k' q1] at h2
    exact h.own k' o' g q3 h2
  · have hkj : k ≠ j := fun e => by rw [e, h0] at h1; cases h1
    have e1 : β' k = β k := by simp [β', hkj]
    have e2 : κ' k = κ k := by simp [κ', hkj]
    rw [e1, e2]
    exact h.keeps k o h1
theorem al_ren {ops : Array Oper} {rest : List Oper} {Q : Exit → Act → World → Prop} (i j : Nat) (h0 : find E.ob0 j = none) (hno : noneOf j sl ob = true) (h : AL E ops rest Q (renS [(i, j)] sl) (renO [(i, j)] (dropK [j] ob))) : AL E ops rest Q sl ob := ⟨fun a w ⟨_, _, _, hg⟩ => h.run a w (hg.ren1 h0 hno)⟩
/-- less is said, within a list of operations -/
theorem al_less {ops : Array Oper} {rest : List Oper} {Q : Exit → Act → World → Prop} {sl' : Slots} {ob' : Objs} (hs : ∀ p ∈ sl', look sl p.1 = p.2) (ho : ∀ p ∈ ob', find ob p.1 = some p.2) (h : AL E ops rest Q sl' ob') : AL E ops rest Q sl ob := ⟨fun a w hi => h.run a w (hi.less hs ho)⟩
/-- a nil slice in a box's cell, as a list of nothing -/
theorem Good.nilcell (h : Good E sl ob a w Pr β κ) {i j s : Nat} {T : TypeId} {l : List V} (hf : find ob i = some (.box T l)) (hj : l[j]? = some (.d (.val (.slice none 0 0)))) : Good E sl ((i, .box T (l.set j (.d (.list s [])))) :: ob) a w Pr β κ := by
  have hcase : ∀ m om, find ((i, .box T (l.set j (.d (.list s [])))) :: ob) m = some om → (m = i ∧ om = .box T (l.set j (.d (.list s [])))) ∨ (m ≠ i ∧ find ob m = some om) := by
    intro m om hm
    by_cases hmi : m = i
    · subst hmi
      rw [find_eq] at hm
      cases hm
      exact .inl ⟨rfl, rfl⟩
    · rw [find_ne hmi] at hm
      exact .inr ⟨hmi, hm⟩
  have hkey : ∀ m om, find ((i, .box T (l.set j (.d (.list s [])))) :: ob) m = some om → ∃ om', find ob m = some om' := by
    intro m om hm
    rcases hcase m om hm with ⟨rfl, _⟩ | ⟨_, h1⟩
    · exact ⟨_, hf⟩
    · exact ⟨_, h1⟩
  refine ⟨h.below, h.st0, h.pr0, h.prn, h.prl, h.size, h.defers, h.slots, fun m om hm => ?_, fun m k om ok g h1 h2 => ?_, fun m om g h1 => ?_, h.keeps, h.fresh⟩
  · rcases hcase m om hm with ⟨rfl, rfl⟩ | ⟨_, h1⟩
    · obtain ⟨g, cs, q1, q2, q3, q4, q5, q6⟩ := h.objs m _ hf
      refine ⟨g, cs, q1, q2, q3, by simp [q4], fun n v x hn hx => ?_, q6⟩
      by_cases hnj : j = n
      · subst hnj
        have hlt := (List.getElem?_eq_some_iff.1 hj).1
        rw [List.getElem?_set_self hlt] at hx
        cases hx
        have := (q5 j v _ hn hj).val_inv
        subst this
        exact .d _ _ (.nil none 0 s (Nat.zero_le _))
      · rw [List.getElem?_set_ne hnj] at hx
        exact q5 n v x hn hx
    · exact h.objs m om h1
  · obtain ⟨o1, k1⟩ := hkey m om h1
    obtain ⟨o2, k2⟩ := hkey k ok h2
    exact h.apart m k o1 o2 g k1 k2
  · obtain ⟨o1, k1⟩ := hkey m om h1
    exact h.own m o1 g k1
theorem aq_nilcell {x : Exit} {Q : Exit → Act → World → Prop} (i j s : Nat) {T : TypeId} {l l' : List V} (hf : find ob i = some (.box T l)) (hj : l[j]? = some (.d (.val (.slice none 0 0)))) (hl : l.set j (.d (.list s [])) = l') (h : AQ E x Q sl ((i, .box T l') :: ob)) : AQ E x Q sl ob := by
  subst hl
  exact ⟨fun a w ⟨_, _, _, hg⟩ => h.run a w ⟨_, _, _, hg.nilcell hf hj⟩⟩
end
end Go.Proofs.YtfgibalcdjlnhaaDoor
end
section
namespace Go.Proofs.YtfgibalcdjlnhaaDoor
open Go.RowKit

section
variable {E : Entry} {sl : Slots} {ob : Objs} {a : Act} {w : World} {Pr : Prot} {β : Nat → Value} {κ : Nat → Nat}
variable {d : Nat} {dd : Option Nat} {t T ty : TypeId} {p : String} {af : Array Edge} {g : Option (Nat × Bool)} {x y c : Operand}
def byteV (s : ByteArray) : List V := s.data.toList.map fun u => .d (.val (.int .u8 u.toNat))
theorem byteV_len (s : ByteArray) : (byteV s).length = s.size := by
  unfold byteV
  rw [List.length_map]
  exact (Lib.size_eq s).symm
set_option maxRecDepth 20000 in
/-- copy(b, s) -/
theorem st_copystr {i o n eb e : Nat} {ez : Value} {T' t0 t1 : TypeId} {l l' : List V} {s : ByteArray} {A : Array TypeId} (hx : ev sl x = .sl i o n) (hf : find ob i = some (.box T' l)) (hy : ev sl y = .d (.str s)) (hA : A = #[t0, t1]) (hT : ti t0 = .sl e 1 eb ez) (hs : s.size ≤ n) (hl : o + n ≤ l.length) (hr : put l o (byteV s) = l') (hd : d < E.n) :
    Step E ⟨some d, .call { callee := .builtin .copy, args := #[x, y], argTypes := A }, T, p, af, g⟩ sl ob ((d, .d (.val (.int .i64 s.size))) :: sl) ((i, .box T' l') :: ob) := by
  subst hA hr
  rintro a w ⟨Pr, β, κ, h⟩ K Q hK
  obtain ⟨_, j, _, hu, _, hj, _, hsz, _⟩ := ti_sl hT
  have hv := good_ev h x
  rw [hx] at hv
  generalize hav : a.eval x = v at hv
  have hyv : a.eval y = .string s := good_val h hy
  cases hv with
  | sl _ _ _ cap gg hb hc hm hz =>
    obtain ⟨b', cs, hb', hB, hh, hcl, hcv, hno⟩ := h.objs i _ hf
    rw [hb'] at hb
    simp only [Value.pointer.injEq, Option.some.injEq, Addr.mk.injEq, and_true] at hb
    subst hb
    have hrun := Lib.run_copy_row_string (P := Tryd.prog) w t0 t1 T e b' o n cap s cs.toArray T' hu (by simp [hj, hsz]) hh hs (by simp; omega)
    have hrun2 : (execOp a.eval ⟨some d, .call { callee := .builtin .copy, args := #[x, y], argTypes := #[t0, t1] }, T, p, af, g⟩).run Tryd.prog w = .ok (.value (goInt s.size)) (w.setRow b' (cs.take o ++ Lib.byteCells s.data.toList ++ cs.drop (o + s.size)).toArray) := by
      simp [execOp, resolve, invoke, builtin, hav, hyv, hrun]
    unfold Oper.wp
    rw [hrun2, Oper.upon_value]
    have hbl : (Lib.byteCells s.data.toList).length = s.size := by rw [Lib.byteCells_length, ← Lib.size_eq]
    have hG : Good E sl ((i, .box T' (put l o (byteV s))) :: ob) a (w.setRow b' (cs.take o ++ Lib.byteCells s.data.toList ++ cs.drop (o + s.size)).toArray) Pr β κ := by
      refine h.setobj (T := T') hf hb' hno ⟨_, hh⟩ (fun hkeep => ?_)
      refine ⟨b', cs.take o ++ Lib.byteCells s.data.toList ++ cs.drop (o + s.size), hb', hB, setRow_heap w b' _ _ _ _ hh, by simp [put, byteV_len, hbl]; omega, fun j u z h2 h3 => hkeep u z ?_, hno⟩
      simp only [put, byteV_len] at h3
      rw [List.append_assoc] at h2 h3
      by_cases hj1 : j < o
      · rw [List.getElem?_append_left (by simp; omega), List.getElem?_take, if_pos hj1] at h2 h3
        exact hcv j u z h2 h3
      · rw [List.getElem?_append_right (by simp; omega)] at h2 h3
        have e1 : (cs.take o).length = o := by simp; omega
        have e2 : (l.take o).length = o := by simp; omega
        rw [e1] at h2
        rw [e2] at h3
        by_cases hj2 : j - o < s.size
        · rw [List.getElem?_append_left (by omega)] at h2
          rw [List.getElem?_append_left (by rw [byteV_len]; omega)] at h3
          simp only [Lib.byteCells, byteV, List.getElem?_map, Option.map_eq_some_iff] at h2 h3
          obtain ⟨q1, h4, rfl⟩ := h2
          obtain ⟨q2, h5, rfl⟩ := h3
          rw [h4] at h5
          cases h5
          exact .d _ _ (.val _)
        · rw [List.getElem?_append_right (by omega), List.getElem?_drop] at h2
          rw [List.getElem?_append_right (by rw [byteV_len]; omega), List.getElem?_drop] at h3
          rw [hbl] at h2
          rw [byteV_len] at h3
          exact hcv _ u z h2 h3
    exact hK _ _ ⟨Pr, β, κ, hG.put hd (.d _ _ (.val _))⟩
set_option maxRecDepth 20000 in
/-- b[at:], of a slice that was made -/
theorem y_sub_sl {i o n l1 e eb : Nat} {ez : Value} {lo : Option Operand} (hx : ev sl x = .sl i o n) (hT : ti t = .sl e 1 eb ez) (hl : lowAt sl lo l1) (k1 : l1 < n) :
    Y E ⟨dd, .slice t x lo none none, T, p, af, g⟩ sl ob (.sl i (o + l1) (n - l1)) := fun a w Pr β κ h => by
  obtain ⟨_, j, _, hu, _, hj, _, hs, _⟩ := ti_sl hT
  have hv := good_ev h x
  rw [hx] at hv
  generalize hav : a.eval x = v at hv
  cases hv with
  | sl _ _ _ c gg hb hc hm hz =>
    have hsl : sliced (some ⟨gg, o, none⟩) l1 n c 1 = .slice (some ⟨gg, o + l1, none⟩) (n - l1) (c - l1) := by
      unfold sliced
      rw [if_neg (by omega)]
      simp [Addr.add_lit]
    refine ⟨sliced (some ⟨gg, o, none⟩) l1 n c 1, by rw [hsl]; exact .sl i (o + l1) (n - l1) (c - l1) gg hb (by omega) (by omega) (fun h1 h2 => by have := hz h1 (by omega); omega), fun w' _ => ?_⟩
    have hsz : (sizeOf e).run Tryd.prog w' = .ok 1 w' := by simp [sizeOf, typeInfo, hj, hs]
    have hrb := run_bounds (w' := w') (is := true) (hi := none) h hl (high_none (sl := sl) (len := n)) (Nat.le_of_lt k1) (Nat.le_refl n) hc
    simp only [Option.map_none] at hrb
    simp [execOp, hav, Instr.sliceAt, Instr.slice, run_underlying hu, hrb, hsz, sliced]
end
end Go.Proofs.YtfgibalcdjlnhaaDoor
end
