/-
  Code over abstract states: sequences, tests, loops, calls, returns. Conditions: none.
-/
import Derived.Test.YtabaflklognhaaaAbsPure
import Derived.Test.YtabaflklognhaaaGlob
import Derived.OwnWalk
namespace Go.Proofs.Ytabaflklognhaaa
open Go.RowKit

section
variable {E : Entry} {sl sl' : Slots} {ob ob' : Objs} {ops : Array Oper} {rest : List Oper} {Q : Exit → Act → World → Prop} {x y : Code} {K : Act → World → Prop} {id id' : Nat} {e : Exit}
theorem lt_ok {d n : Nat} (h : Nat.blt d n = true) : d < n := by simpa [Nat.blt_eq] using h
theorem le_ok {d n : Nat} (h : Nat.ble d n = true) : d ≤ n := Nat.le_of_ble_eq_true h
theorem not_t {b : Bool} (h : (!b) = true) : b = false := by simpa using h
theorem not_f {b : Bool} (h : (!b) = false) : b = true := by simpa using h
theorem aw_seq (h : AW E x (Exit.then (y.wp Try.prog Q) Q) sl ob) : AW E (.seq x y) Q sl ob := ⟨fun a w hi => wp_seq (h.run a w hi)⟩
theorem aw_skip (h : AQ E .normal Q sl ob) : AW E .skip Q sl ob := ⟨fun a w hi => wp_skip (h.run a w hi)⟩
theorem aw_exit (h : AQ E (.exit id) Q sl ob) : AW E (.exit id) Q sl ob := ⟨fun a w hi => wp_exit (h.run a w hi)⟩
theorem aw_ret (h : AQ E .ret Q sl ob) : AW E .ret Q sl ob := ⟨fun a w hi => wp_ret (h.run a w hi)⟩
theorem aw_block (h : AW E x (Exit.inBlock id Q) sl ob) : AW E (.block id x) Q sl ob := ⟨fun a w hi => wp_block (h.run a w hi)⟩
theorem aw_cond {c : Operand} {b : Bool} (hc : ev sl c = .d (.val (.bool b))) (h1 : b = true → AW E x Q sl ob) (h2 : b = false → AW E y Q sl ob) : AW E (.cond c x y) Q sl ob := by
  refine ⟨fun a w hi => ?_⟩
  obtain ⟨Pr, β, κ, hg⟩ := hi
  exact wp_cond_split (good_val hg hc) (fun h => (h1 h).run a w ⟨Pr, β, κ, hg⟩) (fun h => (h2 h).run a w ⟨Pr, β, κ, hg⟩)
theorem aw_cond_t {c : Operand} {b : Bool} (hc : ev sl c = .d (.val (.bool b))) (hb : b = true) (h1 : AW E x Q sl ob) : AW E (.cond c x y) Q sl ob := aw_cond hc (fun _ => h1) (fun h => by rw [hb] at h; cases h)
theorem aw_cond_f {c : Operand} {b : Bool} (hc : ev sl c = .d (.val (.bool b))) (hb : b = false) (h1 : AW E y Q sl ob) : AW E (.cond c x y) Q sl ob := aw_cond hc (fun h => by rw [hb] at h; cases h) (fun _ => h1)
theorem aw_region {l : List Oper} (h : AL E l.toArray l Q sl ob) : AW E (.region id l.toArray false) Q sl ob := ⟨fun a w hi => wp_region_lit (h.run a w hi)⟩
theorem aq_then (h : AW E y Q sl ob) : AQ E .normal (Exit.then (y.wp Try.prog Q) Q) sl ob := ⟨h.run⟩
theorem aq_then_x (h : AQ E (.exit id) Q sl ob) : AQ E (.exit id) (Exit.then K Q) sl ob := ⟨h.run⟩
theorem aq_then_r (h : AQ E .ret Q sl ob) : AQ E .ret (Exit.then K Q) sl ob := ⟨h.run⟩
theorem aq_block (h : AQ E .normal Q sl ob) : AQ E .normal (Exit.inBlock id Q) sl ob := ⟨h.run⟩
theorem aq_block_x (h : AQ E .normal Q sl ob) : AQ E (.exit id) (Exit.inBlock id Q) sl ob := ⟨fun a w hi => by simpa [Exit.inBlock] using h.run a w hi⟩
theorem aq_block_y (hne : id' ≠ id) (h : AQ E (.exit id') Q sl ob) : AQ E (.exit id') (Exit.inBlock id Q) sl ob := ⟨fun a w hi => by simpa [Exit.inBlock, hne] using h.run a w hi⟩
theorem aq_block_r (h : AQ E .ret Q sl ob) : AQ E .ret (Exit.inBlock id Q) sl ob := ⟨h.run⟩
/-- a state that says less -/
theorem aw_less (hs : ∀ p ∈ sl', look sl p.1 = p.2) (ho : ∀ p ∈ ob', find ob p.1 = some p.2) (h : AW E x Q sl' ob') : AW E x Q sl ob := ⟨fun a w hi => h.run a w (hi.less hs ho)⟩
theorem aq_less (hs : ∀ p ∈ sl', look sl p.1 = p.2) (ho : ∀ p ∈ ob', find ob p.1 = some p.2) (h : AQ E e Q sl' ob') : AQ E e Q sl ob := ⟨fun a w hi => h.run a w (hi.less hs ho)⟩
theorem sub_nil {s : Slots} : ∀ p ∈ ([] : Slots), look s p.1 = p.2 := by simp
theorem sub_cons {s : Slots} {i : Nat} {v : V} {r : Slots} (h : look s i = v) (hr : ∀ p ∈ r, look s p.1 = p.2) : ∀ p ∈ (i, v) :: r, look s p.1 = p.2 := by
  intro p hp
  rcases List.mem_cons.1 hp with rfl | hp
  · exact h
  · exact hr p hp
theorem obs_nil {s : Objs} : ∀ p ∈ ([] : Objs), find s p.1 = some p.2 := by simp
theorem obs_cons {s : Objs} {i : Nat} {v : O} {r : Objs} (h : find s i = some v) (hr : ∀ p ∈ r, find s p.1 = some p.2) : ∀ p ∈ (i, v) :: r, find s p.1 = some p.2 := by
  intro p hp
  rcases List.mem_cons.1 hp with rfl | hp
  · exact h
  · exact hr p hp

theorem at_op (op : Op) {d : Option Nat} {t : TypeId} {p : String} {af : Array Edge} (h : AL E ops (⟨d, op, t, p, af, none⟩ :: rest) Q sl ob) : AL E ops (⟨d, op, t, p, af, none⟩ :: rest) Q sl ob := h
theorem at_guard {op : Op} {d : Option Nat} {t : TypeId} {p : String} {af : Array Edge} {g : Nat × Bool} (h : AL E ops (⟨d, op, t, p, af, some g⟩ :: rest) Q sl ob) : AL E ops (⟨d, op, t, p, af, some g⟩ :: rest) Q sl ob := h
theorem at_cond {c : Operand} (h : AW E (.cond c x y) Q sl ob) : AW E (.cond c x y) Q sl ob := h
/-- What a round must end in. -/
structure LoopK (E : Entry) (I : Nat → Slots → Objs → Prop) (n : Nat) (a : Act) (w : World) : Prop where
  run : ∃ n', n' < n ∧ ∃ sl' ob', Inv E sl' ob' a w ∧ I n' sl' ob'
theorem least {J : Nat → Prop} (h : ∃ n, J n) : ∃ m, J m ∧ ∀ k, J k → m ≤ k := by
  obtain ⟨n, hn⟩ := h
  induction n using Nat.strongRecOn with
  | _ n ih =>
    by_cases hk : ∃ k, k < n ∧ J k
    · obtain ⟨k, hk1, hk2⟩ := hk
      exact ih k hk1 hk2
    · exact ⟨n, hn, fun k hk' => Nat.le_of_not_lt fun hlt => hk ⟨k, hlt, hk'⟩⟩
theorem aw_loop (I : Nat → Slots → Objs → Prop) (n0 : Nat) (h0 : I n0 sl ob) (round : ∀ n sl ob, I n sl ob → AW E x (Exit.then (LoopK E I n) Q) sl ob) : AW E (.loop x) Q sl ob := by
  refine ⟨fun a w hi => ?_⟩
  have hμ : ∀ (a : Act) (w : World), ∃ m, (∃ n sl ob, Inv E sl ob a w ∧ I n sl ob) → (∃ sl ob, Inv E sl ob a w ∧ I m sl ob) ∧ ∀ k, (∃ sl ob, Inv E sl ob a w ∧ I k sl ob) → m ≤ k := by
    intro a w
    by_cases h : ∃ n sl ob, Inv E sl ob a w ∧ I n sl ob
    · obtain ⟨m, h1, h2⟩ := least (J := fun n => ∃ sl ob, Inv E sl ob a w ∧ I n sl ob) h
      exact ⟨m, fun _ => ⟨h1, h2⟩⟩
    · exact ⟨0, fun h' => absurd h' h⟩
  refine wp_loop (fun a w => ∃ n sl ob, Inv E sl ob a w ∧ I n sl ob) (fun a w => Classical.choose (hμ a w)) ⟨n0, sl, ob, hi, h0⟩ ?_
  intro a w hJ
  obtain ⟨⟨sl, ob, hi, hI⟩, _⟩ := Classical.choose_spec (hμ a w) hJ
  refine Code.wp_mono ?_ ((round _ sl ob hI).run a w hi)
  intro e a' w' hq
  cases e <;> first
    | exact hq
    | skip
  obtain ⟨n', hlt, sl', ob', hi', hI'⟩ := hq.run
  have hJ' : ∃ n sl ob, Inv E sl ob a' w' ∧ I n sl ob := ⟨n', sl', ob', hi', hI'⟩
  exact ⟨hJ', Nat.lt_of_le_of_lt ((Classical.choose_spec (hμ a' w') hJ').2 n' ⟨sl', ob', hi', hI'⟩) hlt⟩
theorem aw_loop2 (I : Nat → Slots → Objs → Prop) (n0 : Nat) (sl' : Slots) (ob' : Objs) (h0 : I n0 sl' ob') (hs : ∀ p ∈ sl', look sl p.1 = p.2) (ho : ∀ p ∈ ob', find ob p.1 = some p.2) (round : ∀ n sl ob, I n sl ob → AW E x (Exit.then (LoopK E I n) Q) sl ob) : AW E (.loop x) Q sl ob :=
  aw_less hs ho (aw_loop I n0 h0 round)
theorem aq_round {I : Nat → Slots → Objs → Prop} {n : Nat} (n' : Nat) (sl' : Slots) (ob' : Objs) (hI : I n' sl' ob') (hlt : n' < n) (hs : ∀ p ∈ sl', look sl p.1 = p.2) (ho : ∀ p ∈ ob', find ob p.1 = some p.2) : AQ E .normal (Exit.then (LoopK E I n) Q) sl ob :=
  ⟨fun _ _ hi => ⟨⟨n', hlt, sl', ob', hi.less hs ho, hI⟩⟩⟩
end

/-- What a call sees of the package's variables. -/
def EnvOk (w : World) (Pr : Prot) : Prop := ∀ g l, (g, l) ∈ laidG → (∀ (j : Nat) (d : D), l[j]? = some d → ∃ u, w.cell? ⟨g, j, none⟩ = some u ∧ Pr g j ∧ RepD w Pr u d) ∧ ∀ j, l[j]? = none → w.cell? ⟨g, j, none⟩ = none ∧ Pr g j
theorem EnvOk.keep {w w' : World} {Pr Pr' : Prot} (h : EnvOk w Pr) (hs : Stays Pr w w') (hp : ∀ b o, Pr b o → Pr' b o) : EnvOk w' Pr' := fun g l hm => ⟨fun j d hj =>
  let ⟨u, h1, h2, h3⟩ := (h g l hm).1 j d hj
  ⟨u, (hs _ _ h2).trans h1, hp _ _ h2, h3.keep hs hp⟩, fun j hj =>
  let ⟨h1, h2⟩ := (h g l hm).2 j hj
  ⟨(hs _ _ h2).trans h1, hp _ _ h2⟩⟩
def PrNew (Pr : Prot) (w w' : World) : Prot := fun b o => Pr b o ∨ (w.heap.size ≤ b ∧ b < w'.heap.size)
def PostR (w : World) (Pr : Prot) (Post : D → Prop) : Ending → World → Prop := fun e w' => ∃ v r, e = .returned v ∧ Post r ∧ RepD w' (PrNew Pr w w') v r ∧ Below w.heap.size w w'
def FnOk (f : FuncId) : Prop := ∃ fn, Try.prog.funcs[f]? = some fn ∧ (fn.name == "runtime.NumGoroutine") = false ∧ fn.body.isSome = true
/-- A function that turns nothing that was there: from what its arguments show to what its result shows. -/
def PureC (f : FuncId) (ds : List D) (Post : D → Prop) : Prop :=
  FnOk f ∧ ∀ (w : World) (Pr : Prot) (vs : List Value), (∀ b o, Pr b o → b < w.heap.size) → EnvOk w Pr → vs.length = ds.length → (∀ (i : Nat) (v : Value) (d : D), vs[i]? = some v → ds[i]? = some d → RepD w Pr v d) →
    Calls Try.prog f vs.toArray w (PostR w Pr Post)
theorem PureC.mono {f : FuncId} {ds : List D} {P Q : D → Prop} (h : PureC f ds P) (hq : ∀ r, P r → Q r) : PureC f ds Q :=
  ⟨h.1, fun w Pr vs h1 h2 h3 h4 => (h.2 w Pr vs h1 h2 h3 h4).mono fun _ _ ⟨v, r, e1, e2, e3, e4⟩ => ⟨v, r, e1, hq r e2, e3, e4⟩⟩
def slotsOf : Nat → List D → Slots
  | _, [] => []
  | i, d :: ds => (i, .d d) :: slotsOf (i + 1) ds
theorem look_slotsOf (ds : List D) (i k : Nat) : look (slotsOf k ds) i = if k ≤ i then (match ds[i - k]? with | some d => .d d | none => .und) else .und := by
  induction ds generalizing k with
  | nil => simp [slotsOf, look]
  | cons d ds ih =>
    simp only [slotsOf]
    by_cases h : i = k
    · subst h
      rw [look_eq]
      simp
    · rw [look_ne h, ih]
      by_cases h2 : k ≤ i
      · have h3 : k + 1 ≤ i := by omega
        rw [if_pos h2, if_pos h3, show i - k = (i - (k + 1)) + 1 by omega]
        simp
      · rw [if_neg h2, if_neg (by omega)]
/-- What a call may take for granted of where it began. -/
def Fine (E : Entry) : Prop := EnvOk E.w E.pr ∧ ∀ b o, E.pr b o → b < E.w.heap.size
theorem pure_enter {f : FuncId} {fn : Func} {c : Code} {ds : List D} {Post : D → Prop} (hf : Try.prog.funcs[f]? = some fn) (hb : fn.body = some c) (hn : (fn.name == "runtime.NumGoroutine") = false) (N : Nat) (hN : fn.ntmps = N) (hl : ds.length ≤ N)
    (h : ∀ w Pr, Fine ⟨w, Pr, N, [], fun _ => .nilFunc, fun _ => 0⟩ → AW ⟨w, Pr, N, [], fun _ => .nilFunc, fun _ => 0⟩ c (bodyPost Try.prog fn (PostR w Pr Post)) (slotsOf 0 ds) []) : PureC f ds Post := by
  refine ⟨⟨fn, hf, hn, by simp [hb]⟩, fun w Pr vs h1 h2 h3 h4 => calls_of_wp hf hb ?_⟩
  subst hN
  refine (h w Pr ⟨h2, h1⟩).run _ _ ⟨Pr, fun _ => .nilFunc, fun _ => 0, Under.refl _ _, fun _ _ _ => rfl, fun _ _ h => h, fun _ _ h => .inl h, h1, ?_, rfl, fun i => ?_, fun i o ho => by simp [find] at ho, fun i j oi oj g ho => by simp [find] at ho, fun i o g ho => by simp [find] at ho, fun i o ho => by simp [find] at ho, fun i o ho => by simp [find] at ho⟩
  · simp [h3]; omega
  · rw [look_slotsOf]
    simp only [Nat.zero_le, if_true, Nat.sub_zero]
    cases hd : ds[i]? with
    | none => exact .und _
    | some d =>
      have hi : i < vs.length := by rw [h3]; exact (List.getElem?_eq_some_iff.1 hd).1
      have hv : vs[i]? = some vs[i] := List.getElem?_eq_getElem hi
      refine .d _ _ ?_
      have : (vs.toArray ++ Array.replicate (fn.ntmps - vs.toArray.size) undef).getD i undef = vs[i] := by
        rw [Array.getD_eq_getD_getElem?, Array.getElem?_append_left (by simpa using hi)]
        simp [hi]
      rw [this]
      exact h4 i _ d hv hd

/-- a table that is laid -/
theorem tab_of {w : World} {Pr : Prot} (hE : EnvOk w Pr) {g : Nat} {name : String} {vs : List Value} (hm : (g, vs.map D.val) ∈ laidG) (hg : Try.prog.globalNamed name = some g) (h0 : 0 < vs.length) : w.var? Try.prog name = some vs.toArray := by
  obtain ⟨h1, h2⟩ := hE g _ hm
  have hc : ∀ j, w.cell? ⟨g, j, none⟩ = vs[j]? := by
    intro j
    cases hv : vs[j]? with
    | none => exact (h2 j (by simp [hv])).1
    | some v =>
      obtain ⟨u, q1, _, q3⟩ := h1 j (.val v) (by simp [hv])
      cases q3
      exact q1
  have hz := hc 0
  rw [List.getElem?_eq_getElem h0] at hz
  simp only [World.var?, hg, Option.bind_some]
  simp only [World.cell?] at hc hz
  cases hh : w.heap[g]? with
  | none => rw [hh] at hz; cases hz
  | some o =>
    cases o with
    | cells cs t f =>
      simp only [hh, Option.isSome_none, Bool.false_eq_true, if_false] at hc
      simp only [Option.some.injEq]
      apply Array.ext'
      apply List.ext_getElem?
      intro j
      have := hc j
      simpa using this
    | _ => rw [hh] at hz; cases hz
/-- What a slot shows outside. -/
inductive ToD (ob : Objs) : V → D → Prop where
  | d (x : D) : ToD ob (.d x) x
  | row (i k e s : Nat) (l : List (List D)) (h : find ob i = some (.row e s k l)) : ToD ob (.row i k) (.list s l)
  | agg (vs : List V) (ds : List D) (hl : vs.length = ds.length) (h : ∀ (i : Nat) (v : V) (d : D), vs[i]? = some v → ds[i]? = some d → ToD ob v d) : ToD ob (.agg vs) (.agg ds)
  | nil (s : Nat) : ToD ob (.d (.val (.slice none 0 0))) (.list s [])
section
variable {E : Entry} {sl : Slots} {ob : Objs} {a : Act} {w : World} {Pr : Prot} {β : Nat → Value} {κ : Nat → Nat}
theorem row_rep (h : Good E sl ob a w Pr β κ) {i e s k : Nat} {l : List (List D)} (ho : find ob i = some (.row e s k l)) : RepD w Pr (β i) (.list s l) := by
  obtain ⟨_, xs, hown, hls, hd, hpr⟩ := h.objs i _ ho
  rcases hown.2 with ⟨h0, hl⟩ | ⟨g, cap, cur, h0, hB, hg, hc, hm, hsz, htk⟩
  · obtain rfl : l = [] := List.eq_nil_of_length_eq_zero hl
    rw [h0]
    exact .nil _ _ _ (Nat.zero_le _)
  · rw [h0] at hown hpr ⊢
    have hu : ∀ (p j : Nat), p < l.length → j < s → ∃ u, w.cell? ⟨g, p * s + j, none⟩ = some u ∧ ∀ (x : List D) (d : D), l[p]? = some x → x[j]? = some d → RepD w Pr u d := by
      intro p j hp hj
      have hx : l[p]? = some l[p] := List.getElem?_eq_getElem hp
      have hxl := hls _ (List.getElem_mem hp)
      have hd' : l[p][j]? = some (l[p][j]'(by omega)) := List.getElem?_eq_getElem (by omega)
      obtain ⟨u, hu, hr⟩ := hd p j _ _ hx hd'
      have hlt : p * s + j < l.length * s := Nat.lt_of_lt_of_le (by omega : p * s + j < p * s + s) (by rw [← Nat.succ_mul]; exact Nat.mul_le_mul_right _ hp)
      refine ⟨u, (hown.cellAt _ hlt).trans hu, fun x d h1 h2 => ?_⟩
      rw [hx] at h1
      cases h1
      rw [hd'] at h2
      cases h2
      exact hr
    have hu' : ∀ (p j : Nat), ∃ u, p < l.length → j < s → w.cell? ⟨g, p * s + j, none⟩ = some u ∧ ∀ (x : List D) (d : D), l[p]? = some x → x[j]? = some d → RepD w Pr u d := by
      intro p j
      by_cases hp : p < l.length ∧ j < s
      · obtain ⟨u, hu⟩ := hu p j hp.1 hp.2
        exact ⟨u, fun _ _ => hu⟩
      · exact ⟨undef, fun h1 h2 => absurd ⟨h1, h2⟩ hp⟩
    have hb : ∀ (p j : Nat) (x : List D) (d : D), l[p]? = some x → x[j]? = some d → p < l.length ∧ j < s := by
      intro p j x d h1 h2
      have hp := (List.getElem?_eq_some_iff.1 h1).1
      have hj := (List.getElem?_eq_some_iff.1 h2).1
      rw [hls x (List.mem_of_getElem? h1)] at hj
      exact ⟨hp, hj⟩
    refine .list g 0 l.length cap s l (fun p j => Classical.choose (hu' p j)) rfl hls hc hm (fun p j x d h1 h2 => ?_) (fun p j x d h1 h2 => ?_)
    · obtain ⟨hp, hj⟩ := hb p j x d h1 h2
      rw [Nat.zero_add]
      refine ⟨(Classical.choose_spec (hu' p j) hp hj).1, (hpr g rfl _).2 ?_⟩
      exact Nat.lt_of_lt_of_le (by omega : p * s + j < p * s + s) (by rw [← Nat.succ_mul]; exact Nat.mul_le_mul_right _ hp)
    · obtain ⟨hp, hj⟩ := hb p j x d h1 h2
      exact (Classical.choose_spec (hu' p j) hp hj).2 x d h1 h2
theorem toD_rep (h : Good E sl ob a w Pr β κ) {v : V} {d : D} (hd : ToD ob v d) : ∀ u, RepV w Pr β κ u v → RepD w Pr u d := by
  induction hd with
  | d x => exact fun u hu => hu.d_inv
  | nil s =>
    intro u hu
    cases hu.val_inv
    exact .nil _ _ _ (Nat.zero_le _)
  | row i k e s l ho =>
    intro u hu
    cases hu with
    | row _ _ _ hs hk hv =>
      have h1 : κ i = k := (h.objs i _ ho).1
      rw [hv h1.symm]
      exact row_rep h ho
  | agg vs ds hl hd ih =>
    intro u hu
    cases hu with
    | agg cs _ hl' hd' =>
      refine .agg cs ds (hl'.trans hl) (fun i v d h1 h2 => ?_)
      have hi : i < vs.length := by rw [hl]; exact (List.getElem?_eq_some_iff.1 h2).1
      have hx : vs[i]? = some vs[i] := List.getElem?_eq_getElem hi
      exact ih i _ d hx h2 v (hd' i v _ h1 hx)
/-- Arguments. -/
inductive ArgsD (sl : Slots) (ob : Objs) : List Operand → List D → Prop where
  | nil : ArgsD sl ob [] []
  | cons {x : Operand} {xs : List Operand} {d : D} {ds : List D} (h : ToD ob (ev sl x) d) (hr : ArgsD sl ob xs ds) : ArgsD sl ob (x :: xs) (d :: ds)
theorem ArgsD.rep (h : Good E sl ob a w Pr β κ) {xs : List Operand} {ds : List D} (hd : ArgsD sl ob xs ds) : (xs.map a.eval).length = ds.length ∧ ∀ (i : Nat) (v : Value) (d : D), (xs.map a.eval)[i]? = some v → ds[i]? = some d → RepD w Pr v d := by
  induction hd with
  | nil => simp
  | @cons x xs d ds hx hr ih =>
    refine ⟨by simpa using ih.1, fun i v d' h1 h2 => ?_⟩
    cases i with
    | zero =>
      simp at h1 h2
      subst h1 h2
      exact toD_rep h hx _ (good_ev h x)
    | succ i => exact ih.2 i v d' (by simpa using h1) (by simpa using h2)
theorem env_now (hE : Fine E) (h : Good E sl ob a w Pr β κ) : EnvOk w Pr := hE.1.keep h.st0 h.pr0
theorem run_callFunc {f : FuncId} (hf : FnOk f) (args : Array Value) (w : World) : (callFunc f args).run Try.prog w = .ok (.enter f args) w := by
  obtain ⟨fn, h1, h2, h3⟩ := hf
  have hb : fn.body ≠ none := by cases hbb : fn.body <;> simp_all
  have hn : fn.name ≠ "runtime.NumGoroutine" := by simpa using h2
  simp [callFunc, program, Sem.run, h1, hn, hb]

variable {ops : Array Oper} {rest : List Oper} {Q : Exit → Act → World → Prop} {d : Nat} {ty : TypeId} {p : String} {af : Array Edge}
theorem Good.called (h : Good E sl ob a w Pr β κ) {w' : World} {v : Value} {r : D} (hx : Below w.heap.size w w') (hr : RepD w' (PrNew Pr w w') v r) (hd : d < E.n) : Good E ((d, .d r) :: sl) ob (a.put (some d) v) w' (PrNew Pr w w') β κ :=
  (h.grow hx (fun _ _ h => .inl h) (fun _ _ h => h)).put hd (.d _ _ hr)
theorem al_call {f : FuncId} {ds : List D} {Post : D → Prop} {c : Operand} {xs : List Operand} {ats : Array TypeId} (hc : PureC f ds Post) (hf : ev sl c = .d (.val (.func (.func f) #[] #[]))) (hE : Fine E) (hd : d < E.n) (ha : ArgsD sl ob xs ds)
    (hK : ∀ r, Post r → AL E ops rest Q ((d, .d r) :: sl) ob) : AL E ops (⟨some d, .call { callee := .value c, args := xs.toArray, argTypes := ats }, ty, p, af, none⟩ :: rest) Q sl ob := by
  refine ⟨fun a w hi => ?_⟩
  obtain ⟨Pr, β, κ, h⟩ := hi
  refine wpList_plain rfl fun K hKK => ?_
  obtain ⟨hl, hr⟩ := ha.rep h
  have hcall := hc.2 w Pr (xs.map a.eval) h.prl (env_now hE h) hl hr
  have hrun : (execOp a.eval ⟨some d, .call { callee := .value c, args := xs.toArray, argTypes := ats }, ty, p, af, none⟩).run Try.prog w = .ok (.enter f (xs.map a.eval).toArray) w := by
    simp [execOp, resolve, Deferred.ofValue, invoke, good_val h hf, run_callFunc hc.1]
  unfold Oper.wp
  rw [hrun, Oper.upon_enter]
  refine hcall.mono fun e w' ⟨v, r, he, hp, hrep, hb⟩ => ?_
  subst he
  exact hKK _ _ ((hK r hp).run _ _ ⟨_, β, κ, h.called hb hrep hd⟩)

theorem below_of (h0 : E.ob0 = []) (hg : Good E sl ob a w Pr β κ) : Below E.w.heap.size E.w w := Under.below (β := E.β0) (h0 ▸ hg.below)
theorem prNew_of (h0 : E.ob0 = []) (hg : Good E sl ob a w Pr β κ) : ∀ b o, Pr b o → PrNew E.pr E.w w b o := fun b o hb => by
  rcases hg.prn b o hb with h1 | h1 | h1
  · exact .inl h1
  · exact .inr ⟨h1, hg.prl b o hb⟩
  · rw [h0] at h1
    exact absurd h1 lent_nil
/-- What a result variable shows. -/
inductive ResD (sl : Slots) (ob : Objs) : ResultVar → D → Prop where
  | tmp (t : Nat) (d : D) (h : ToD ob (look sl t) d) : ResD sl ob (.tmp t) d
theorem ret_one {fn : Func} {Post : D → Prop} {t : Nat} {r : D} (hr : fn.results = #[.tmp t]) (h : ToD ob (look sl t) r) (hp : Post r) (h0 : E.ob0 = [] := by rfl) : AQ E .ret (bodyPost Try.prog fn (PostR E.w E.pr Post)) sl ob := by
  refine ⟨fun a w hi => ?_⟩
  obtain ⟨Pr, β, κ, hg⟩ := hi
  refine bodyPost_ret (results_tmp hr _ _ _) hg.defers ⟨_, r, rfl, hp, (toD_rep hg h _ (hg.slots t)).keep (fun _ _ _ => rfl) ?_, below_of h0 hg⟩
  exact prNew_of h0 hg
theorem ret_two {fn : Func} {Post : D → Prop} {t u : Nat} {r q : D} (hr : fn.results = #[.tmp t, .tmp u]) (h : ToD ob (look sl t) r) (h' : ToD ob (look sl u) q) (hp : Post (.tup [r, q])) (h0 : E.ob0 = [] := by rfl) : AQ E .ret (bodyPost Try.prog fn (PostR E.w E.pr Post)) sl ob := by
  refine ⟨fun a w hi => ?_⟩
  obtain ⟨Pr, β, κ, hg⟩ := hi
  refine bodyPost_ret (results_tmp2 hr _ _ _) hg.defers ⟨_, _, rfl, hp, ?_, below_of h0 hg⟩
  have hP := prNew_of h0 hg
  have k1 := (toD_rep hg h _ (hg.slots t)).keep (fun _ _ _ => rfl) hP
  have k2 := (toD_rep hg h' _ (hg.slots u)).keep (fun _ _ _ => rfl) hP
  refine .tup [_, _] _ rfl (fun i v d h1 h2 => ?_)
  match i with
  | 0 => cases h1; cases h2; exact k1
  | 1 => cases h1; cases h2; exact k2
theorem ret_three {fn : Func} {Post : D → Prop} {t u z : Nat} {r q s : D} (hr : fn.results = #[.tmp t, .tmp u, .tmp z]) (h : ToD ob (look sl t) r) (h' : ToD ob (look sl u) q) (h'' : ToD ob (look sl z) s) (hp : Post (.tup [r, q, s])) (h0 : E.ob0 = [] := by rfl) : AQ E .ret (bodyPost Try.prog fn (PostR E.w E.pr Post)) sl ob := by
  refine ⟨fun a w hi => ?_⟩
  obtain ⟨Pr, β, κ, hg⟩ := hi
  refine bodyPost_ret (results_tmp3 hr _ _ _) hg.defers ⟨_, _, rfl, hp, ?_, below_of h0 hg⟩
  have hP := prNew_of h0 hg
  have k1 := (toD_rep hg h _ (hg.slots t)).keep (fun _ _ _ => rfl) hP
  have k2 := (toD_rep hg h' _ (hg.slots u)).keep (fun _ _ _ => rfl) hP
  have k3 := (toD_rep hg h'' _ (hg.slots z)).keep (fun _ _ _ => rfl) hP
  refine .tup [_, _, _] _ rfl (fun i v d h1 h2 => ?_)
  match i with
  | 0 => cases h1; cases h2; exact k1
  | 1 => cases h1; cases h2; exact k2
  | 2 => cases h1; cases h2; exact k3
end
end Go.Proofs.Ytabaflklognhaaa
