/-
  Rows that may be changed in place; such a row, seen as a box while a call changes it; closures; over abstract states. Conditions: none.
  Rows that may be changed: appended to, copied, handed to a call as boxes; over abstract states. Conditions: none.
-/
import Derived.Test.YtfgibalcdjlnhaaDoorMah
section
namespace Go.Proofs.YtfgibalcdjlnhaaDoor
open Go.RowKit

theorem keyCase {ob : Objs} {i : Nat} {o' : O} : ∀ {m : Nat} {om : O}, find ((i, o') :: ob) m = some om → (m = i ∧ om = o') ∨ (m ≠ i ∧ find ob m = some om) := by
  intro m om hm
  by_cases hmi : m = i
  · subst hmi
    rw [find_eq] at hm
    cases hm
    exact .inl ⟨rfl, rfl⟩
  · rw [find_ne hmi] at hm
    exact .inr ⟨hmi, hm⟩
theorem keyHas {ob : Objs} {i : Nat} {o o' : O} (hf : find ob i = some o) : ∀ {m : Nat} {om : O}, find ((i, o') :: ob) m = some om → ∃ om', find ob m = some om' := by
  intro m om hm
  rcases keyCase hm with ⟨rfl, _⟩ | ⟨_, h1⟩
  · exact ⟨_, hf⟩
  · exact ⟨_, h1⟩
section
variable {E : Entry} {sl : Slots} {ob : Objs} {a : Act} {w : World} {Pr : Prot} {β : Nat → Value} {κ : Nat → Nat}
/-- An object is said in other words. -/
theorem Good.swap (h : Good E sl ob a w Pr β κ) {i : Nat} {o o' : O} (hf : find ob i = some o) (hr : RepO w Pr 0 β κ i o') : Good E sl ((i, o') :: ob) a w Pr β κ := by
  refine ⟨h.below, h.st0, h.pr0, h.prn, h.prl, h.size, h.defers, h.slots, fun m om hm => ?_, fun m k om ok g h1 h2 => ?_, fun m om g h1 => ?_, h.keeps, h.fresh⟩
  · rcases keyCase hm with ⟨rfl, rfl⟩ | ⟨_, h1⟩
    · exact hr
    · exact h.objs m om h1
  · obtain ⟨o1, k1⟩ := keyHas hf h1
    obtain ⟨o2, k2⟩ := keyHas hf h2
    exact h.apart m k o1 o2 g k1 k2
  · obtain ⟨o1, k1⟩ := keyHas hf h1
    exact h.own m o1 g k1
/-- A slot is said in other words. -/
theorem Good.slot (h : Good E sl ob a w Pr β κ) {j : Nat} {x : V} (hx : RepV w Pr β κ (a.tmps.getD j undef) x) : Good E ((j, x) :: sl) ob a w Pr β κ := by
  refine ⟨h.below, h.st0, h.pr0, h.prn, h.prl, h.size, h.defers, fun i => ?_, h.objs, h.apart, h.own, h.keeps, h.fresh⟩
  by_cases hij : i = j
  · subst hij
    rw [look_eq]
    exact hx
  · rw [look_ne hij]
    exact h.slots i
/-- A row of nothing may be changed. -/
theorem Good.unrow (h : Good E sl ob a w Pr β κ) {r e s k : Nat} (hf : find ob r = some (.row e s k [])) : Good E sl ((r, .vec e s k []) :: ob) a w Pr β κ := by
  obtain ⟨hκ, xs, hown, hls, hd, hpr⟩ := h.objs r _ hf
  exact h.swap hf ⟨hκ, xs, hown, hls, hd, fun g hg o ho => by have := (hpr g hg o).1 ho; simp at this⟩
theorem aq_unrow {x : Exit} {Q : Exit → Act → World → Prop} (r : Nat) {e s k : Nat} (hf : find ob r = some (.row e s k [])) (h : AQ E x Q sl ((r, .vec e s k []) :: ob)) : AQ E x Q sl ob := ⟨fun a w ⟨_, _, _, hg⟩ => h.run a w ⟨_, _, _, hg.unrow hf⟩⟩
theorem own_blk {B n s : Nat} {e : TypeId} {v : Value} {xs : List Value} (h : w.ownsRow B e s v n xs) : blk v = v.ownBlock := by
  rcases h.2 with ⟨h0, _⟩ | ⟨g', cap, cur, h0, _⟩ <;> exact ownBlock_blk h0
theorem own_slice {B n s : Nat} {e : TypeId} {v : Value} {xs : List Value} (h : w.ownsRow B e s v n xs) : ∃ A m c, v = .slice A m c := by
  rcases h.2 with ⟨h0, _⟩ | ⟨g', cap, cur, h0, _⟩ <;> exact ⟨_, _, _, h0⟩
/-- A row is not changed any more. -/
theorem Good.protect (h : Good E sl ob a w Pr β κ) {r e s k : Nat} {l : List (List D)} (hf : find ob r = some (.vec e s k l)) : Inv E sl ((r, .row e s k l) :: ob) a w := by
  obtain ⟨hκ, xs, hown, hls, hd, hno⟩ := h.objs r _ hf
  have hbb := own_blk hown
  let Pr' : Prot := fun b o => Pr b o ∨ ((β r).ownBlock = some b ∧ o < l.length * s)
  have hs : Stays Pr w w := fun _ _ _ => rfl
  have hp : ∀ b o, Pr b o → Pr' b o := fun _ _ h => .inl h
  refine ⟨Pr', β, κ, h.below, h.st0, fun b o ho => hp b o (h.pr0 b o ho), fun b o ho => ?_, fun b o ho => ?_, h.size, h.defers, fun q => (h.slots q).keep hs hp, fun q o ho => ?_, fun m k om ok g h1 h2 => ?_, fun m om g h1 => ?_, h.keeps, h.fresh⟩
  · rcases ho with ho | ⟨ho, _⟩
    · exact h.prn b o ho
    · exact .inr ((h.own r _ b hf (by rw [hbb]; exact ho)).elim .inr .inl)
  · rcases ho with ho | ⟨ho, _⟩
    · exact h.prl b o ho
    · exact (hown.lt b ho).2
  · rcases keyCase ho with ⟨rfl, rfl⟩ | ⟨hqr, ho⟩
    · refine ⟨hκ, xs, hown, hls, fun p j x d h1 h2 => ?_, fun g hg o => ⟨fun ho => ?_, fun ho => .inr ⟨hg, ho⟩⟩⟩
      · obtain ⟨u, hu, hr⟩ := hd p j x d h1 h2
        exact ⟨u, hu, hr.keep hs hp⟩
      · rcases ho with ho | ⟨_, ho⟩
        · exact absurd ho (hno g hg o)
        · exact ho
    · refine (h.objs q o ho).keep2 hs hp (fun gg hgg m hm => ?_) (fun _ _ => rfl)
      rcases hm with hm | ⟨hm, _⟩
      · exact hm
      · exact absurd (h.apart q r _ _ _ ho hf hgg (by rw [hbb]; exact hm)) hqr
  · obtain ⟨o1, k1⟩ := keyHas hf h1
    obtain ⟨o2, k2⟩ := keyHas hf h2
    exact h.apart m k o1 o2 g k1 k2
  · obtain ⟨o1, k1⟩ := keyHas hf h1
    exact h.own m o1 g k1
theorem aw_protect {z : Code} {Q : Exit → Act → World → Prop} (r : Nat) {e s k : Nat} {l : List (List D)} (hf : find ob r = some (.vec e s k l)) (h : AW E z Q sl ((r, .row e s k l) :: ob)) : AW E z Q sl ob := ⟨fun a w ⟨_, _, _, hg⟩ => h.run a w (hg.protect hf)⟩
theorem RepO.newer {B i r : Nat} {o : O} {β' : Nat → Value} {κ' : Nat → Nat} (h : RepO w Pr B β κ i o) (hi : i ≠ r) (hβ : ∀ j, j ≠ r → β' j = β j) (hκ : ∀ j, j ≠ r → κ' j = κ j) (hr : κ r < κ' r) (hb : ∃ A n c, β r = .slice A n c) : RepO w Pr B β' κ' i o := by
  cases o with
  | box T' lb =>
    obtain ⟨gg, cs, q1, q2, q3, q4, q5, q6⟩ := h
    exact ⟨gg, cs, (hβ i hi).trans q1, q2, q3, q4, fun m u z h3 h4 => (q5 m u z h3 h4).newer hβ hκ hr hb, q6⟩
  | row e' s' k' l' =>
    obtain ⟨q1, q2, q3, q4, q5, q6⟩ := h
    exact ⟨(hκ i hi).trans q1, q2, by rw [hβ i hi]; exact q3, q4, q5, by rw [hβ i hi]; exact q6⟩
  | vec e' s' k' l' =>
    obtain ⟨q1, q2, q3, q4, q5, q6⟩ := h
    exact ⟨(hκ i hi).trans q1, q2, by rw [hβ i hi]; exact q3, q4, q5, by rw [hβ i hi]; exact q6⟩
  | byt e' k' l' =>
    obtain ⟨q1, g, cap, cur, fz, q2, q3⟩ := h
    exact ⟨(hκ i hi).trans q1, g, cap, cur, fz, (hβ i hi).trans q2, q3⟩
  | map T' c r =>
    obtain ⟨g, es, q1, q2⟩ := h
    exact ⟨g, es, (hβ i hi).trans q1, q2⟩
  | iter v s n c =>
    obtain ⟨g, gm, q1, q2, q3, q4, q5⟩ := h
    exact ⟨g, gm, (hβ i hi).trans q1, q2, q3, q4.newer hβ hκ hr hb, q5⟩
/-- A row has a new version. -/
theorem Good.verup (h : Good E sl ob a w Pr β κ) {r k : Nat} {v' : Value} {o' : O} (hκ : κ r = k) (hb : ∃ A n c, β r = .slice A n c) (hown : ∀ g, blk v' = some g → Lent E.ob0 E.β0 g ∨ E.w.heap.size ≤ g)
    (hap : ∀ j oj g, find ob j = some oj → j ≠ r → blk (β j) = some g → blk v' ≠ some g) (ho : RepO w Pr 0 (updV β r v') (updN κ r (k + 1)) r o') : Good E sl ((r, o') :: ob) a w Pr (updV β r v') (updN κ r (k + 1)) := by
  have e1 := updV_same β r v'
  have e2 := updN_same κ r (k + 1)
  have e3 := updV_other β r v'
  have e4 := updN_other κ r (k + 1)
  have hlt : κ r < updN κ r (k + 1) r := by rw [e2]; omega
  refine ⟨h.below, h.st0, h.pr0, h.prn, h.prl, h.size, h.defers, fun i => (h.slots i).newer e3 e4 hlt hb, fun m om hm => ?_, fun m j om oj g h1 h2 h3 h4 => ?_, fun m om g h1 h2 => ?_, fun m o hm => ?_, h.fresh⟩
  · rcases keyCase hm with ⟨rfl, rfl⟩ | ⟨hmr, hm⟩
    · exact ho
    · exact (h.objs m om hm).newer hmr e3 e4 hlt hb
  · by_cases hmr : m = r
    · by_cases hjr : j = r
      · rw [hmr, hjr]
      · rw [hmr, e1] at h3
        rw [e3 j hjr] at h4
        exact absurd h3 (hap j oj g (find_other hjr h2) hjr h4)
    · rw [e3 m hmr] at h3
      by_cases hjr : j = r
      · rw [hjr, e1] at h4
        exact absurd h4 (hap m om g (find_other hmr h1) hmr h3)
      · rw [e3 j hjr] at h4
        exact h.apart m j om oj g (find_other hmr h1) (find_other hjr h2) h3 h4
  · rcases keyCase h1 with ⟨rfl, _⟩ | ⟨hmr, h1⟩
    · rw [e1] at h2
      exact hown g h2
    · rw [e3 m hmr] at h2
      exact h.own m om g h1 h2
  · by_cases hmr : m = r
    · subst hmr
      rw [e1, e2]
      refine .inr ?_
      rcases h.keeps m o hm with ⟨k1, k2⟩ | ⟨k1, k2⟩
      · exact ⟨by omega, by rw [← k1]; exact hb⟩
      · exact ⟨by omega, k2⟩
    · rw [e3 m hmr, e4 m hmr]
      exact h.keeps m o hm
/-- A box's cell that holds a row holds nothing any more: the row's next version. -/
theorem Good.reset (h : Good E sl ob a w Pr β κ) {i j r e s k : Nat} {T : TypeId} {l : List V} {L : List (List D)} (hf : find ob i = some (.box T l)) (hj : l[j]? = some (.d (.val (.slice none 0 0)))) (hr : find ob r = some (.row e s k L)) : Inv E sl ((i, .box T (l.set j (.row r (k + 1)))) :: (r, .vec e s (k + 1) []) :: ob) a w := by
  obtain ⟨hκ, xs, hown, hls, hd, hpr⟩ := h.objs r _ hr
  have hir : i ≠ r := by rintro rfl; rw [hf] at hr; cases hr
  have hG := h.verup (r := r) (k := k) (v' := .slice none 0 0) (o' := .vec e s (k + 1) []) hκ (own_slice hown) (fun g hg => by simp [blk] at hg) (fun _ _ _ _ _ _ => by simp [blk]) ⟨updN_same _ _ _, [], by rw [updV_same]; exact World.ownsRow_nil _ _ _ _, by simp, fun p j x d h1 => by simp at h1, fun g hg => by rw [updV_same] at hg; simp [Value.ownBlock] at hg⟩
  have hf' : find ((r, O.vec e s (k + 1) []) :: ob) i = some (.box T l) := by rw [find_ne hir]; exact hf
  refine ⟨_, _, _, hG.swap hf' ?_⟩
  obtain ⟨g, cs, q1, q2, q3, q4, q5, q6⟩ := hG.objs i _ hf'
  refine ⟨g, cs, q1, q2, q3, by simp [q4], fun n v x hn hx => ?_, q6⟩
  by_cases hnj : j = n
  · subst hnj
    have hlt := (List.getElem?_eq_some_iff.1 hj).1
    rw [List.getElem?_set_self hlt] at hx
    cases hx
    have hv := (q5 j v _ hn hj).val_inv
    exact .row r (k + 1) _ ⟨none, 0, 0, hv⟩ (by rw [updN_same]; exact Nat.le_refl _) (fun _ => by rw [hv, updV_same])
  · rw [List.getElem?_set_ne hnj] at hx
    exact q5 n v x hn hx
theorem aq_reset {x : Exit} {Q : Exit → Act → World → Prop} (i j r : Nat) {e s k : Nat} {T : TypeId} {l l' : List V} {L : List (List D)} (hf : find ob i = some (.box T l)) (hj : l[j]? = some (.d (.val (.slice none 0 0)))) (hr : find ob r = some (.row e s k L)) (hl : l.set j (.row r (k + 1)) = l') (h : AQ E x Q sl ((i, .box T l') :: (r, .vec e s (k + 1) []) :: ob)) : AQ E x Q sl ob := by
  subst hl
  exact ⟨fun a w ⟨_, _, _, hg⟩ => h.run a w (hg.reset hf hj hr)⟩
theorem flat_get {s : Nat} : ∀ {L : List (List D)}, (∀ x ∈ L, x.length = s) → ∀ {t : Nat} {z : D}, L.flatten[t]? = some z → ∃ p j x, t = p * s + j ∧ L[p]? = some x ∧ x[j]? = some z
  | [], _, t, z, h => by simp at h
  | y :: L, hs, t, z, h => by
    have hy : y.length = s := hs y (by simp)
    rw [List.flatten_cons] at h
    by_cases ht : t < s
    · rw [List.getElem?_append_left (by omega)] at h
      exact ⟨0, t, y, by omega, rfl, h⟩
    · rw [List.getElem?_append_right (by omega), hy] at h
      obtain ⟨p, j, x, h1, h2, h3⟩ := flat_get (fun x hx => hs x (by simp [hx])) h
      exact ⟨p + 1, j, x, by rw [Nat.add_mul]; omega, by simpa using h2, h3⟩
theorem flat_put {s : Nat} : ∀ {L : List (List D)}, (∀ x ∈ L, x.length = s) → ∀ {p j : Nat} {x : List D} {z : D}, L[p]? = some x → x[j]? = some z → L.flatten[p * s + j]? = some z
  | [], _, p, j, x, z, h, _ => by simp at h
  | y :: L, hs, p, j, x, z, h, h2 => by
    have hy : y.length = s := hs y (by simp)
    rw [List.flatten_cons]
    cases p with
    | zero =>
      simp at h
      subst h
      have := (List.getElem?_eq_some_iff.1 h2).1
      rw [List.getElem?_append_left (by omega), Nat.zero_mul, Nat.zero_add]
      exact h2
    | succ p =>
      rw [List.getElem?_append_right (by rw [Nat.add_mul]; omega), hy, show (p + 1) * s + j - s = p * s + j by rw [Nat.add_mul]; omega]
      exact flat_put (fun x hx => hs x (by simp [hx])) (by simpa using h) h2
theorem flat_len {s : Nat} : ∀ {L : List (List D)}, (∀ x ∈ L, x.length = s) → L.flatten.length = L.length * s
  | [], _ => by simp
  | y :: L, hs => by
    rw [List.flatten_cons, List.length_append, hs y (by simp), flat_len (fun x hx => hs x (by simp [hx])), List.length_cons, Nat.add_mul]
    omega
/-- A row that may be changed, seen as a box. -/
theorem Good.view (h : Good E sl ob a w Pr β κ) {r e s k q j : Nat} {L : List (List D)} (hf : find ob r = some (.vec e s k L)) (hL : L ≠ []) (hj : look sl j = .row r k) (hno : noneOf q sl ob = true) (hq : q < E.n) (hqr : q ≠ r) :
    ∃ m c g, c * s = L.flatten.length + m ∧ c ≠ 0 ∧ c ≤ maxLen ∧ κ r = k ∧ (∃ A n c, β r = .slice A n c) ∧ (∀ x ∈ L, x.length = s) ∧
      Good E ((j, .sl q 0 L.length) :: sl) ((q, .box e (L.flatten.map V.d ++ List.replicate m .und)) :: dropK [r] ob) a w Pr (updV β q (.pointer (some ⟨g, 0, none⟩))) (updN κ q c) := by
  obtain ⟨hκ, xs, hown, hls, hd, hnp⟩ := h.objs r _ hf
  have hv0 : a.tmps.getD j undef = β r := by
    have := h.slots j
    rw [hj] at this
    exact this.row_inv hκ.symm
  have hos := own_slice hown
  have hbb := own_blk hown
  have hln : L.length ≠ 0 := fun e => hL (List.eq_nil_of_length_eq_zero e)
  have hx1 := hown.1
  rcases hown.2 with ⟨_, h0⟩ | ⟨g, cap, cur, hv, _, hh, hnc, hcm, hcs, htk⟩
  · exact absurd h0 hln
  have hfl := flat_len hls
  have hle : L.length * s ≤ cap * s := Nat.mul_le_mul_right _ hnc
  have hno' : noneOf q sl (dropK [r] ob) = true := by
    simp only [noneOf, Bool.and_eq_true] at hno ⊢
    refine ⟨hno.1, List.all_eq_true.2 fun p hp => ?_⟩
    have : ∀ (ob : Objs), p ∈ dropK [r] ob → p ∈ ob := by
      intro ob
      induction ob with
      | nil => intro h; exact h
      | cons p' ob ih =>
        obtain ⟨i, x⟩ := p'
        simp only [dropK]
        cases mem [r] i with
        | true => intro h; exact List.mem_cons_of_mem _ (ih h)
        | false =>
          intro h
          rcases List.mem_cons.1 h with h | h
          · exact h ▸ List.mem_cons_self
          · exact List.mem_cons_of_mem _ (ih h)
    exact List.all_eq_true.1 hno.2 p (this ob hp)
  have hg : (β r).ownBlock = some g := by rw [hv]; rfl
  have hgb : blk (β r) = some g := by rw [hbb, hg]
  let β' := updV β q (.pointer (some ⟨g, 0, none⟩))
  let κ' := updN κ q cap
  have e1 : β' q = .pointer (some ⟨g, 0, none⟩) := updV_same _ _ _
  have e2 : κ' q = cap := updN_same _ _ _
  have e3 : ∀ j, j ≠ q → β' j = β j := updV_other _ _ _
  have e4 : ∀ j, j ≠ q → κ' j = κ j := updN_other _ _ _
  have hfr : ∀ i o, find E.ob0 i = some o → i ≠ q := fun i o hi e => by have := h.fresh i o hi; omega
  refine ⟨cap * s - L.flatten.length, cap, g, by omega, by omega, hcm, hκ, hos, hls, ?_⟩
  refine Good.slot (j := j) (x := .sl q 0 L.length) (sl := sl) ⟨h.below, h.st0, h.pr0, h.prn, h.prl, h.size, h.defers, fun i => (h.slots i).other (noneOf_slot hno i) e3 e4, fun m om hm => ?_, fun m j om oj gg h1 h2 h3 h4 => ?_, fun m om gg h1 h2 => ?_, fun m o hm => ?_, h.fresh⟩ ?_
  · rcases keyCase hm with ⟨rfl, rfl⟩ | ⟨hmq, hm⟩
    · have hml : (L.flatten.map V.d).length = L.flatten.length := List.length_map _
      refine ⟨g, cur.toList, e1, Nat.zero_le _, by rw [Array.toArray_toList]; exact hh, by rw [List.length_append, hml, List.length_replicate, Array.length_toList]; omega, fun t v x h1 h2 => ?_, hnp g hg⟩
      by_cases ht : t < L.flatten.length
      · rw [List.getElem?_append_left (by rw [hml]; exact ht), List.getElem?_map, Option.map_eq_some_iff] at h2
        obtain ⟨z, hz, rfl⟩ := h2
        obtain ⟨p, jj, y, h3, h4, h5⟩ := flat_get hls hz
        obtain ⟨u, hu, hru⟩ := hd p jj y z h4 h5
        rw [← htk, ← h3, List.getElem?_take, if_pos (by omega)] at hu
        rw [h1] at hu
        cases hu
        exact .d _ _ hru
      · rw [List.getElem?_append_right (by rw [hml]; omega)] at h2
        have := List.eq_of_mem_replicate (List.mem_of_getElem? h2)
        subst this
        exact .und _
    · obtain ⟨h1, h2⟩ := find_dropK hm
      exact (h.objs m om h2).other (noneOf_obj hno h2) hmq e3 e4
  · have h3 : blk (β' m) = some gg := h3
    have h4 : blk (β' j) = some gg := h4
    have e5 : blk (β' q) = some g := by rw [e1]; rfl
    by_cases hmq : m = q
    · by_cases hjq : j = q
      · rw [hmq, hjq]
      · obtain ⟨q1, q2⟩ := find_dropK (find_other hjq h2)
        rw [hmq, e5] at h3
        rw [e3 j hjq, ← h3] at h4
        exact absurd (h.apart j r _ _ _ q2 hf h4 hgb) (fun e => q1 (by simp [e]))
    · obtain ⟨q1, q2⟩ := find_dropK (find_other hmq h1)
      rw [e3 m hmq] at h3
      by_cases hjq : j = q
      · rw [hjq, e5] at h4
        rw [← h4] at h3
        exact absurd (h.apart m r _ _ _ q2 hf h3 hgb) (fun e => q1 (by simp [e]))
      · rw [e3 j hjq] at h4
        exact h.apart m j om oj gg q2 (find_dropK (find_other hjq h2)).2 h3 h4
  · have h2 : blk (β' m) = some gg := h2
    rcases keyCase h1 with ⟨rfl, _⟩ | ⟨hmq, h1⟩
    · rw [e1] at h2
      cases h2
      exact h.own r _ _ hf hgb
    · rw [e3 m hmq] at h2
      exact h.own m om gg (find_dropK h1).2 h2
  · show (β' m = _ ∧ κ' m = _) ∨ _
    rw [e3 m (hfr m o hm), e4 m (hfr m o hm)]
    exact h.keeps m o hm
  · rw [hv0, hv]
    exact .sl q 0 L.length cap g e1 hnc hcm (fun _ _ => e2.symm)
end
end Go.Proofs.YtfgibalcdjlnhaaDoor
end
section
namespace Go.Proofs.YtfgibalcdjlnhaaDoor
open Go.RowKit

section
variable {E : Entry} {sl : Slots} {ob : Objs} {a : Act} {w : World} {Pr : Prot} {β : Nat → Value} {κ : Nat → Nat}
variable {d : Nat} {dd : Option Nat} {t T ty : TypeId} {p : String} {af : Array Edge} {g : Option (Nat × Bool)} {x y c : Operand} {m : Int}
/-- append onto a row: what it leaves -/
theorem run_app0 {v0 : Value} {e es eb : Nat} {ez : Value} {n0 : Nat} {l2 : List (List D)} {xs : List Value} (hown : w.ownsRow 0 e es v0 n0 xs) {v : Value} (hy : RepD w Pr v (.list es l2)) (hT : ti t = .sl e es eb ez)
    (h1 : ∀ q ∈ l2, ∀ z ∈ q, D.one z = true) (hes : 0 < es) (hb : (n0 + l2.length) * eb ≤ 140737488355328) (hm : n0 + l2.length ≤ 140737488355328) :
    ∃ v' w' news, (Builtin.append_ #[t, t] T #[v0, v]).run Tryd.prog w = .ok v' w' ∧ App w v0 e es n0 xs l2 Pr v' w' news := by
  obtain ⟨_, ie, _, hu, _, hj, hz, hs, hby, hzs⟩ := ti_sl hT
  have hbase : 0 ≤ w.heap.size := Nat.zero_le _
  cases hy with
  | nil A c _ hmm =>
    have hrun : (Builtin.append_ #[t, t] T #[v0, .slice A 0 c]).run Tryd.prog w = .ok v0 w := by
      have hfc : ∀ A, (Builtin.firstCells es 0 (.slice A 0 c)).run Tryd.prog w = .ok #[] w := by
        intro A
        cases A <;> simp [Builtin.firstCells, loadCells, loadCellsFrom]
      rcases hown.2 with ⟨hv, _⟩ | ⟨g, cap, cur, hv, _, _, hnc, _⟩
      · rw [hv]
        simp [Builtin.append_, run_underlying hu, sizeOf, typeInfo, hj, hs, Builtin.lenOf, hfc]
      · rw [hv]
        simp [Builtin.append_, run_underlying hu, sizeOf, typeInfo, hj, hs, Builtin.lenOf, hfc, hnc, storeCells]
    exact ⟨v0, w, [], hrun, by simpa using hown, ⟨rfl, rfl, rfl, Nat.le_refl _, fun _ _ _ => rfl⟩, fun _ _ h => h, fun _ _ _ _ => rfl, by simp, by simp, fun p j q z h2 => by simp at h2⟩
  | list b o n c _ _ u hn hss hc hmm hr hd =>
    subst hn
    let news : List Value := (List.range (l2.length * es)).map fun q => u (q / es) (q % es)
    have hnl : news.length = l2.length * es := by simp [news]
    have hat : ∀ q, q < l2.length * es → ∃ e' z, l2[q / es]? = some e' ∧ e'[q % es]? = some z ∧ q / es * es + q % es = q := by
      intro q hq
      have h3 : q / es < l2.length := by rw [Nat.div_lt_iff_lt_mul hes]; exact hq
      have h4 : q % es < es := Nat.mod_lt _ hes
      have h5 := hss _ (List.getElem_mem h3)
      exact ⟨l2[q / es], _, List.getElem?_eq_getElem h3, List.getElem?_eq_getElem (by omega), by rw [Nat.mul_comm]; exact Nat.div_add_mod q es⟩
    have hget : ∀ (q : Nat) (v : Value), news[q]? = some v → q < l2.length * es ∧ v = u (q / es) (q % es) := by
      intro q v hq
      have hql : q < l2.length * es := by have := (List.getElem?_eq_some_iff.1 hq).1; omega
      simp [news, hql] at hq
      exact ⟨hql, hq.symm⟩
    have hcell : ∀ q v, news[q]? = some v → w.cell? ((⟨b, o, none⟩ : Addr).add q) = some v := by
      intro q v hq
      obtain ⟨hql, rfl⟩ := hget q v hq
      obtain ⟨e', z, h3, h4, h5⟩ := hat q hql
      have := (hr _ _ e' z h3 h4).1
      rw [Addr.add_lit, ← this, Nat.add_assoc, h5]
    have hone : ∀ v ∈ news, v.oneCell' = true := by
      intro v hv
      obtain ⟨q, hq, rfl⟩ := List.getElem_of_mem hv
      obtain ⟨hql, he⟩ := hget q _ (List.getElem?_eq_getElem hq)
      obtain ⟨e', z, h3, h4, h5⟩ := hat q hql
      rw [he]
      exact one_cellD (hd _ _ e' z h3 h4) (h1 e' (List.mem_of_getElem? h3) z (List.mem_of_getElem? h4))
    obtain ⟨v', w', hrun, h2, h3, _⟩ := run_append_own (P := Tryd.prog) w 0 t T e ie ez es eb hu hj hz hs hby hzs hes v0 n0 xs hown ⟨b, o, none⟩ l2.length c news hnl hcell hone (by unfold maxLen; omega) hb hbase
    have hoff := append_off (P := Tryd.prog) w 0 t T e ie ez es eb hu hj hz hs hby v0 n0 xs hown ⟨b, o, none⟩ l2.length c news hnl hes hcell hone (by unfold maxLen; omega) hb hrun
    refine ⟨v', w', news, hrun, h2, h3, hoff, fun g hg j hjl => ?_, hnl, hss, fun p j q z h4 h5 => ?_⟩
    · rcases hown.2 with ⟨hv, _⟩ | ⟨g', cap, cur, hv, _⟩
      · rw [hv] at hg; simp [Value.ownBlock] at hg
      · rw [hv] at hg hown hrun
        simp only [Value.ownBlock, Option.some.injEq] at hg
        subst hg
        exact append_keeps (P := Tryd.prog) w 0 t T e ie ez es eb hu hj hz hs hby g' n0 cap xs hown ⟨b, o, none⟩ l2.length c news hnl hcell hone (by unfold maxLen; omega) hb hrun h2 j hjl
    · have hp : p < l2.length := (List.getElem?_eq_some_iff.1 h4).1
      have hjs : j < es := by have := (List.getElem?_eq_some_iff.1 h5).1; rw [hss q (List.mem_of_getElem? h4)] at this; exact this
      have hlt : p * es + j < l2.length * es := Nat.lt_of_lt_of_le (by omega : p * es + j < p * es + es) (by rw [← Nat.succ_mul]; exact Nat.mul_le_mul_right _ hp)
      have e1 : (p * es + j) / es = p := by rw [Nat.add_comm, Nat.add_mul_div_right _ _ hes, Nat.div_eq_of_lt hjs, Nat.zero_add]
      have e2 : (p * es + j) % es = j := by rw [Nat.add_comm, Nat.add_mul_mod_self_right, Nat.mod_eq_of_lt hjs]
      refine ⟨u p j, ?_, hd p j q z h4 h5⟩
      simp [news, hlt, e1, e2]
/-- only exact values -/
def valsOnly (l : List (List D)) : Prop := ∀ q ∈ l, ∀ z ∈ q, ∃ v, z = D.val v
theorem App.val {v0 v' : Value} {e es n0 : Nat} {l2 : List (List D)} {xs news : List Value} {w' : World} {Pr' : Prot} (h : App w v0 e es n0 xs l2 Pr v' w' news) (hv : valsOnly l2) : App w v0 e es n0 xs l2 Pr' v' w' news := by
  refine ⟨h.own, h.grow, h.off, h.keep, h.len, h.len2, fun p j q z h1 h2 => ?_⟩
  obtain ⟨u, hu, hr⟩ := h.rep p j q z h1 h2
  obtain ⟨v, rfl⟩ := hv q (List.mem_of_getElem? h1) z (List.mem_of_getElem? h2)
  cases hr
  exact ⟨_, hu, .val _⟩
/-- what a row shows that may be changed -/
theorem vec_rep (h : Good E sl ob a w Pr β κ) {i e s k : Nat} {l : List (List D)} (ho : find ob i = some (.vec e s k l)) : RepD w (fun _ _ => True) (β i) (.list s l) := by
  obtain ⟨_, xs, hown, hls, hd, _⟩ := h.objs i _ ho
  rcases hown.2 with ⟨h0, hl⟩ | ⟨g, cap, cur, h0, hB, hg, hc, hm, hsz, htk⟩
  · obtain rfl : l = [] := List.eq_nil_of_length_eq_zero hl
    rw [h0]
    exact .nil _ _ _ (Nat.zero_le _)
  · rw [h0] at hown ⊢
    have hat : ∀ (p j : Nat) (x : List D) (d : D), l[p]? = some x → x[j]? = some d → ∃ u, w.cell? ⟨g, 0 + p * s + j, none⟩ = some u ∧ RepD w Pr u d ∧ xs.getD (p * s + j) undef = u := by
      intro p j x d h1 h2
      obtain ⟨u, hu, hr⟩ := hd p j x d h1 h2
      have hp := (List.getElem?_eq_some_iff.1 h1).1
      have hj : j < s := by rw [← hls x (List.mem_of_getElem? h1)]; exact (List.getElem?_eq_some_iff.1 h2).1
      have hlt : p * s + j < l.length * s := Nat.lt_of_lt_of_le (by omega : p * s + j < p * s + s) (by rw [← Nat.succ_mul]; exact Nat.mul_le_mul_right _ hp)
      rw [Nat.zero_add]
      exact ⟨u, (hown.cellAt _ hlt).trans hu, hr, by rw [List.getD_eq_getElem?_getD, hu]; rfl⟩
    refine .list g 0 l.length cap s l (fun p j => xs.getD (p * s + j) undef) rfl hls hc hm (fun p j x d h1 h2 => ?_) (fun p j x d h1 h2 => ?_)
    · obtain ⟨u, h3, _, h4⟩ := hat p j x d h1 h2
      rw [h4]
      exact ⟨h3, trivial⟩
    · obtain ⟨u, _, h3, h4⟩ := hat p j x d h1 h2
      rw [h4]
      exact h3.keep (fun _ _ _ => rfl) (fun _ _ _ => trivial)
/-- A row's block has turned: the others stand. -/
theorem Good.grown (h : Good E sl ob a w Pr β κ) {i e es k : Nat} {l : List (List D)} {w' : World} (hf : find ob i = some (.vec e es k l)) (hgr : w.grownBy w' (β i).ownBlock) : Good E sl (dropK [i] ob) a w' Pr β κ ∧ Stays Pr w w' := by
  obtain ⟨hκ, xs, hown, hls, hd, hno⟩ := h.objs i _ hf
  have hbb := own_blk hown
  have hs : Stays Pr w w' := fun b o ho => World.cell?_of_block (a := ⟨b, o, none⟩) (hgr.block b (h.prl b o ho) (fun e => hno b e.symm o ho))
  have hbel : Under (fun g => (β i).ownBlock = some g) w w' := ⟨hgr.os, hgr.tape, hgr.output, hgr.size, fun k hk hn => hgr.block k hk (fun e => hn e.symm)⟩
  refine ⟨⟨h.below.then hbel (fun g hg => h.own i _ g hf (by rw [hbb]; exact hg)), fun b o ho => (hs b o (h.pr0 b o ho)).trans (h.st0 b o ho), h.pr0, h.prn, fun b o ho => Nat.lt_of_lt_of_le (h.prl b o ho) hgr.size, h.size, h.defers, fun j => (h.slots j).keep hs (fun _ _ h => h), fun j oj hj => ?_, fun m j om oj g h1 h2 => h.apart m j om oj g (find_dropK h1).2 (find_dropK h2).2, fun m om g h1 => h.own m om g (find_dropK h1).2, h.keeps, h.fresh⟩, hs⟩
  obtain ⟨h1, h2⟩ := find_dropK hj
  have hji : j ≠ i := fun e => h1 (by simp [e])
  exact (h.objs j oj h2).keep2 hs (fun _ _ h => h) (fun _ _ _ h => h) (fun g hg => hgr.block g ((h.objs j oj h2).blkLt g hg).2 (fun e => hji (h.apart j i oj _ g h2 hf hg (by rw [hbb]; exact e.symm))))
theorem find_drop1 {i : Nat} : ∀ {ob : Objs} {j : Nat} {o : O}, j ≠ i → find ob j = some o → find (dropK [i] ob) j = some o := by
  intro ob
  induction ob with
  | nil => intro j o _ h; exact h
  | cons p ob ih =>
    obtain ⟨k, x⟩ := p
    intro j o hji h
    simp only [dropK]
    cases hm : mem [i] k with
    | true =>
      simp only [cond_true]
      have hk : k = i := by simpa using mem_iff.1 hm
      rw [find_ne (by rw [hk]; exact hji)] at h
      exact ih hji h
    | false =>
      simp only [cond_false]
      by_cases hjk : j = k
      · subst hjk
        rw [find_eq] at h ⊢
        exact h
      · rw [find_ne hjk] at h ⊢
        exact ih hji h
/-- append onto a row that may be changed: the state that it leaves -/
theorem vapp_now (h : Good E sl ob a w Pr β κ) {o : Oper} {i k e es : Nat} {l l2 : List (List D)} (hf : find ob i = some (.vec e es k l)) (hd : d < E.n)
    (hrun : ∀ xs, w.ownsRow 0 e es (β i) l.length xs → ∃ v' w' news, (execOp a.eval o).run Tryd.prog w = .ok (.value v') w' ∧ App w (β i) e es l.length xs l2 Pr v' w' news) :
    ∃ v' w' β' κ', (execOp a.eval o).run Tryd.prog w = .ok (.value v') w' ∧ Good E ((d, .row i (k + 1)) :: sl) ((i, .vec e es (k + 1) (l ++ l2)) :: dropK [i] ob) (a.put (some d) v') w' Pr β' κ' ∧ Stays Pr w w' ∧
      (∀ j, j ≠ i → β' j = β j) ∧ (∀ j, j ≠ i → κ' j = κ j) ∧ κ i < κ' i ∧ (∃ A n c, β i = .slice A n c) ∧ w.grownBy w' (β i).ownBlock := by
  obtain ⟨hκ, xs, hown, hls, hrp, hno⟩ := h.objs i _ hf
  obtain ⟨v', w', news, hrun2, happ⟩ := hrun xs hown
  have hbs := own_slice hown
  have hvs := own_slice happ.own
  have hbb := own_blk hown
  have hvb := own_blk happ.own
  obtain ⟨hG, hs⟩ := h.grown hf happ.grow
  have hxl := hown.1
  have hv := hG.verup (r := i) (k := k) (v' := v') (o' := .vec e es (k + 1) (l ++ l2)) hκ hbs (fun g hg => ?_) (fun j oj g h1 hji h2 h3 => ?_) ⟨updN_same _ _ _, xs ++ news, ?_, ?_, fun q m z u h3 h4 => ?_, fun g hg o ho => ?_⟩
  · refine ⟨v', w', _, _, hrun2, hv.put hd ?_, hs, updV_other _ _ _, updN_other _ _ _, by rw [updN_same, hκ]; omega, hbs, happ.grow⟩
    exact .row i (k + 1) v' hvs (by rw [updN_same]; exact Nat.le_refl _) (fun _ => (updV_same _ _ _).symm)
  · rw [hvb] at hg
    by_cases hbi : (β i).ownBlock = some g
    · exact h.own i _ g hf (by rw [hbb]; exact hbi)
    · refine .inr ?_
      by_cases hlt : g < w.heap.size
      · exact absurd hg (happ.off g hlt hbi)
      · have := h.below.size
        omega
  · rw [hvb] at h3
    have h4 := (find_dropK h1).2
    have hlt := ((h.objs j oj h4).blkLt g h2).2
    exact happ.off g hlt (fun hbi => hji (h.apart j i oj _ g h4 hf h2 (by rw [hbb]; exact hbi))) h3
  · rw [updV_same, List.length_append]
    exact happ.own
  · intro z hz
    rcases List.mem_append.1 hz with hz | hz
    · exact hls z hz
    · exact happ.len2 z hz
  · by_cases hq : q < l.length
    · rw [List.getElem?_append_left hq] at h3
      obtain ⟨u', hu', hr'⟩ := hrp q m z u h3 h4
      have hlt := (List.getElem?_eq_some_iff.1 hu').1
      exact ⟨u', by rw [List.getElem?_append_left hlt]; exact hu', hr'.keep hs (fun _ _ h => h)⟩
    · rw [List.getElem?_append_right (by omega)] at h3
      obtain ⟨u', hu', hr'⟩ := happ.rep (q - l.length) m z u h3 h4
      refine ⟨u', ?_, hr'.keep hs (fun _ _ h => h)⟩
      have e5 : q * es + m = xs.length + ((q - l.length) * es + m) := by
        rw [hxl, ← Nat.add_assoc, ← Nat.add_mul, show l.length + (q - l.length) = q by omega]
      rw [e5, List.getElem?_append_right (by omega), Nat.add_sub_cancel_left]
      exact hu'
  · rw [updV_same] at hg
    by_cases hbi : (β i).ownBlock = some g
    · exact hno g hbi o ho
    · exact happ.off g (h.prl g o ho) hbi hg
set_option maxRecDepth 20000 in
theorem vapp_run (h : Good E sl ob a w Pr β κ) {i k e es eb : Nat} {ez : Value} {l l2 : List (List D)} (hx : ev sl x = .row i k) (hf : find ob i = some (.vec e es k l)) (hy : ∃ Pr', RepD w Pr' (a.eval y) (.list es l2) ∧ (Pr' = Pr ∨ valsOnly l2)) (hT : ti t = .sl e es eb ez)
    (h1 : ∀ q ∈ l2, ∀ z ∈ q, D.one z = true) (hes : 0 < es) (hb : (l.length + l2.length) * eb ≤ 140737488355328) (hm : l.length + l2.length ≤ 140737488355328) : ∀ xs, w.ownsRow 0 e es (β i) l.length xs → ∃ v' w' news, (execOp a.eval ⟨some d, .call { callee := .builtin .append, args := #[x, y], argTypes := #[t, t] }, T, p, af, g⟩).run Tryd.prog w = .ok (.value v') w' ∧ App w (β i) e es l.length xs l2 Pr v' w' news := fun xs hown => by
  obtain ⟨hκ, _⟩ := h.objs i _ hf
  have hxv : a.eval x = β i := by
    have := good_ev h x
    rw [hx] at this
    exact this.row_inv hκ.symm
  obtain ⟨Pr', hyv, hpv⟩ := hy
  obtain ⟨v', w', news, hrun, happ⟩ := run_app0 (T := T) hown hyv hT h1 hes hb hm
  refine ⟨v', w', news, by simp [execOp, resolve, invoke, builtin, hxv, hrun], ?_⟩
  rcases hpv with rfl | hpv
  · exact happ
  · exact happ.val hpv
/-- the length of a row that may be changed -/
theorem y_veclen {i k s e n : Nat} {l : List (List D)} {t0 : TypeId} {A : Array TypeId} (hx : ev sl x = .row i k) (hf : find ob i = some (.vec e s k l)) (hA : A = #[t0]) (hT : ∃ e es eb ez, ti t0 = .sl e es eb ez) (hn : l.length = n) :
    Y E ⟨dd, .call { callee := .builtin .len, args := #[x], argTypes := A }, T, p, af, g⟩ sl ob (.d (.val (.int .i64 n))) := fun a w Pr β κ h => by
  subst hA hn
  obtain ⟨e, es, eb, ez, hT⟩ := hT
  obtain ⟨_, _, _, hu, _⟩ := ti_sl hT
  have hxv : a.eval x = β i := by
    have := good_ev h x
    rw [hx] at this
    exact this.row_inv (h.objs i _ hf).1.symm
  have hrep := vec_rep h hf
  rw [← hxv] at hrep
  obtain ⟨A, c, hv, _⟩ := list_form hrep
  exact ⟨_, .d _ _ (.val _), fun w' _ => by simp [execOp, hv, resolve, invoke, builtin, Builtin.len_, run_underlying hu, goInt]⟩
set_option maxRecDepth 20000 in
/-- b[lo:], of a slice over a box -/
theorem y_sub_slA {i o n l1 e es eb r q : Nat} {ez : Value} {lo : Option Operand} (hx : ev sl x = .sl i o n) (hT : ti t = .sl e es eb ez) (hl : lowAt sl lo l1) (k1 : l1 < n) (hes : 0 < es) (hr : o + l1 * es = r) (hq : n - l1 = q) :
    Y E ⟨dd, .slice t x lo none none, T, p, af, g⟩ sl ob (.sl i r q) := fun a w Pr β κ h => by
  subst hr hq
  obtain ⟨_, j, _, hu, _, hj, _, hs, _⟩ := ti_sl hT
  have hv := good_ev h x
  rw [hx] at hv
  generalize hav : a.eval x = v at hv
  cases hv with
  | sl _ _ _ c gg hb hc hm hz =>
    have hsl : sliced (some ⟨gg, o, none⟩) l1 n c es = .slice (some ⟨gg, o + l1 * es, none⟩) (n - l1) (c - l1) := by
      unfold sliced
      rw [if_neg (by omega)]
      simp [Addr.add_lit]
    have hzz : κ i ≠ 0 → o + l1 * es = 0 → c - l1 = κ i := fun h1 h2 => by
      have h3 : l1 * es = 0 := by omega
      have h4 : l1 = 0 := by
        rcases Nat.mul_eq_zero.1 h3 with h5 | h5
        · exact h5
        · omega
      have := hz h1 (by omega)
      omega
    refine ⟨sliced (some ⟨gg, o, none⟩) l1 n c es, by rw [hsl]; exact .sl i (o + l1 * es) (n - l1) (c - l1) gg hb (by omega) (by omega) hzz, fun w' _ => ?_⟩
    have hsz : (sizeOf e).run Tryd.prog w' = .ok es w' := by simp [sizeOf, typeInfo, hj, hs]
    have hrb := run_bounds (w' := w') (is := true) (hi := none) h hl (high_none (sl := sl) (len := n)) (Nat.le_of_lt k1) (Nat.le_refl n) hc
    simp only [Option.map_none] at hrb
    simp [execOp, hav, Instr.sliceAt, Instr.slice, run_underlying hu, hrb, hsz, sliced]
set_option maxRecDepth 20000 in
/-- b[:hi] -/
theorem y_sub_slH {i o n h1 e es eb : Nat} {ez : Value} {hi : Option Operand} (hx : ev sl x = .sl i o n) (hT : ti t = .sl e es eb ez) (hh : highAt sl hi n h1) (k1 : h1 ≤ n) (hn : 0 < n) :
    Y E ⟨dd, .slice t x none hi none, T, p, af, g⟩ sl ob (.sl i o h1) := fun a w Pr β κ h => by
  obtain ⟨_, j, _, hu, _, hj, _, hs, _⟩ := ti_sl hT
  have hv := good_ev h x
  rw [hx] at hv
  generalize hav : a.eval x = v at hv
  cases hv with
  | sl _ _ _ c gg hb hc hm hz =>
    have hsl : sliced (some ⟨gg, o, none⟩) 0 h1 c es = .slice (some ⟨gg, o, none⟩) h1 c := by
      unfold sliced
      rw [if_neg (by omega)]
      simp [Addr.add_lit]
    refine ⟨sliced (some ⟨gg, o, none⟩) 0 h1 c es, by rw [hsl]; exact .sl i o h1 c gg hb (by omega) hm hz, fun w' _ => ?_⟩
    have hsz : (sizeOf e).run Tryd.prog w' = .ok es w' := by simp [sizeOf, typeInfo, hj, hs]
    have hrb := run_bounds (w' := w') (is := true) (lo := none) h (low_none (sl := sl)) hh (Nat.zero_le _) k1 hc
    simp only [Option.map_none] at hrb
    simp [execOp, hav, Instr.sliceAt, Instr.slice, run_underlying hu, hrb, hsz, sliced]
set_option maxRecDepth 20000 in
/-- clear(b) -/
theorem st_clear {i o n e es eb : Nat} {ez : Value} {T' : TypeId} {l : List V} {A : Array TypeId} (hx : ev sl x = .sl i o n) (hf : find ob i = some (.box T' l)) (hA : A = #[t]) (hT : ti t = .sl e es eb ez) (h1 : ez.cells.toList.all (fun u => u.oneCell') = true) (hl : o + n * es ≤ l.length) :
    Step E ⟨none, .call { callee := .builtin .clear, args := #[x], argTypes := A }, T, p, af, g⟩ sl ob sl ((i, .box T' (put l o (List.replicate (n * es) .und))) :: ob) := by
  subst hA
  obtain ⟨_, j, _, hu, _, hj, hz0, hs, _, hzs⟩ := ti_sl hT
  rintro a w ⟨Pr, β, κ, h⟩ K Q hK
  have hv := good_ev h x
  rw [hx] at hv
  generalize hav : a.eval x = v at hv
  cases hv with
  | sl _ _ _ c gg hb hc hm hz =>
    obtain ⟨b', cs, hb', hB, hh, hcl, hcv, hno⟩ := h.objs i _ hf
    rw [hb'] at hb
    simp only [Value.pointer.injEq, Option.some.injEq, Addr.mk.injEq, and_true] at hb
    subst hb
    obtain ⟨Z, hZ, hzl, hone⟩ : ∃ Z, (Builtin.zeroCells ez.cells n).toList = Z ∧ Z.length = n * es ∧ ∀ v ∈ Z, v.oneCell' = true := by
      refine ⟨_, rfl, by simp [Builtin.zeroCells, hzs], fun v hv => ?_⟩
      simp only [Builtin.zeroCells, List.mem_toArray, List.mem_map, Array.mem_toList_iff, Array.mem_map, Array.mem_range, List.mem_range] at hv
      obtain ⟨i, hi, rfl⟩ := hv
      have h0 : 0 < ez.cells.size := by
        rcases Nat.eq_zero_or_pos ez.cells.size with h0 | h0
        · rw [h0] at hi; simp at hi
        · exact h0
      rw [getElem!_pos ez.cells _ (Nat.mod_lt _ h0)]
      exact List.all_eq_true.1 h1 _ (by simp)
    have hst := run_storeCells_at Tryd.prog b' o T' Z 0 cs.toArray w hh (by simp [hzl]; omega) hone
    simp only [Nat.add_zero] at hst
    have hzv : (zeroValue e).run Tryd.prog w = .ok ez w := by simp [zeroValue, typeInfo, hj, hz0]
    have hrun : (execOp a.eval ⟨none, .call { callee := .builtin .clear, args := #[x], argTypes := #[t] }, T, p, af, g⟩).run Tryd.prog w = .ok (.value (.tuple #[])) (w.setRow b' (cs.take o ++ Z ++ cs.drop (o + Z.length)).toArray) := by
      cases n with
      | zero =>
        simp [execOp, hav, resolve, invoke, builtin, Builtin.clear_, run_underlying hu]
        have hZ0 : Z = [] := List.eq_nil_of_length_eq_zero (by omega)
        subst hZ0
        have := setRow_self w b' cs.toArray T' (0, 0) hh
        simpa using this.symm
      | succ n =>
        simp [execOp, hav, resolve, invoke, builtin, Builtin.clear_, run_underlying hu, hzv, hZ, hst]
    unfold Oper.wp
    rw [hrun, Oper.upon_value]
    refine hK _ _ ⟨Pr, β, κ, ?_⟩
    refine Good.put' ?_ rfl
    refine h.setobj (T := T') hf hb' hno ⟨_, hh⟩ (fun hkeep => ?_)
    refine ⟨b', cs.take o ++ Z ++ cs.drop (o + Z.length), hb', hB, setRow_heap w b' _ _ _ _ hh, by simp [put, hzl]; omega, fun j u z h2 h3 => hkeep u z ?_, hno⟩
    simp only [put, List.length_replicate] at h3
    rw [List.append_assoc] at h2 h3
    by_cases hj1 : j < o
    · rw [List.getElem?_append_left (by simp; omega), List.getElem?_take, if_pos hj1] at h2 h3
      exact hcv j u z h2 h3
    · rw [List.getElem?_append_right (by simp; omega)] at h2 h3
      have e1 : (cs.take o).length = o := by simp; omega
      have e2 : (l.take o).length = o := by simp; omega
      rw [e1] at h2
      rw [e2] at h3
      by_cases hj2 : j - o < n * es
      · rw [List.getElem?_append_left (by rw [List.length_replicate]; exact hj2)] at h3
        have := List.eq_of_mem_replicate (List.mem_of_getElem? h3)
        subst this
        exact .und _
      · rw [List.getElem?_append_right (by omega), List.getElem?_drop] at h2
        rw [List.getElem?_append_right (by rw [List.length_replicate]; omega), List.getElem?_drop] at h3
        rw [hzl] at h2
        rw [List.length_replicate] at h3
        exact hcv _ u z h2 h3
/-- bits of a number -/
theorem i64_and1 (n : Int) : bits .and .i64 n 1 = n % 2 := by
  have h127 : (BitVec.ofInt 64 1).toNat = 2 ^ 1 - 1 := by decide
  have key : (BitVec.ofInt 64 n &&& BitVec.ofInt 64 1).toNat = (n % ((2 ^ 64 : Nat) : Int)).toNat % 2 ^ 1 := by
    rw [BitVec.toNat_and, BitVec.toNat_ofInt, h127, Nat.and_two_pow_sub_one_eq_mod]
  show IntKind.i64.wrap ((BitVec.ofInt 64 n &&& BitVec.ofInt 64 1).toNat : Nat) = n % 2
  rw [key, IntKind.wrap_i64]
  omega
theorem y_and {u r : Int} (hx : ev sl x = .d (.val (.int .i64 m))) (hy : ev sl y = .d (.val (.int .i64 u))) (hr : bits .and .i64 m u = r) : Y E ⟨dd, .binOp .and t x y ty, t, p, af, g⟩ sl ob (.d (.val (.int .i64 r))) := y_bin hx hy fun w => by
  subst hr
  rfl
/-- a call of a closure -/
theorem al_clocall {ops : Array Oper} {rest : List Oper} {Q : Exit → Act → World → Prop} {f : FuncId} {caps : List V} {args : List V} {ob1 : Objs} {new : List Nat} {Post : V → Objs → Prop} {zs : List V} {xs : List Operand} {ats : Array TypeId} (l : List (Nat × Nat)) (hc : ObC f (args ++ caps) ob1 new Post) (hf : ev sl c = .clo (.func f) zs) (hz : zs = V.renL l caps) (hE : Fine E) (hd : d < E.n) (ha : ArgsV l sl ob xs args)
    (hL : Lends E sl ob l ob1 new)
    (hK : ∀ x ob', Post x ob' → ∀ y ob2, x.ren l = y → renO l ob' ++ dropK ((keys ob1).map (rn l)) ob = ob2 → AL E ops rest Q ((d, y) :: sl) ob2) : AL E ops (⟨some d, .call { callee := .value c, args := xs.toArray, argTypes := ats }, ty, p, af, none⟩ :: rest) Q sl ob := by
  refine ocall_core hc hE hd hL (fun a w Pr β κ h => ?_) hK
  obtain ⟨hlen, hr⟩ := ha.rep h
  have hv := good_ev h c
  rw [hf] at hv
  generalize hcv : a.eval c = v at hv
  cases hv with
  | clo _ cs _ hl hd =>
    subst hz
    refine ⟨xs.map a.eval ++ cs, by rw [List.length_append, List.length_append, hlen, hl, renL_len], fun i v x h1 h2 => ?_, ?_⟩
    · by_cases hi : i < (xs.map a.eval).length
      · rw [List.getElem?_append_left hi] at h1
        rw [List.getElem?_append_left (by omega)] at h2
        exact hr i v x h1 h2
      · rw [List.getElem?_append_right (by omega)] at h1
        rw [List.getElem?_append_right (by omega), ← hlen] at h2
        exact rep_in (hd _ v (x.ren l) h1 (by rw [renL_get, h2]; rfl)) x rfl
    · simp [execOp, resolve, Deferred.ofValue, invoke, hcv, run_callFunc hc.1]
theorem al_clocall1 {ops : Array Oper} {rest : List Oper} {Q : Exit → Act → World → Prop} {f : FuncId} {a1 : V} {caps : List V} {ob1 : Objs} {new : List Nat} {Post : V → Objs → Prop} {zs : List V} {xs : List Operand} {ats : Array TypeId} (l : List (Nat × Nat)) (hc : ObC f (a1 :: caps) ob1 new Post) (hf : ev sl c = .clo (.func f) zs) (hz : zs = V.renL l caps) (hE : Fine E) (hd : d < E.n) (ha : ArgsV l sl ob xs [a1])
    (hL : Lends E sl ob l ob1 new)
    (hK : ∀ x ob', Post x ob' → ∀ y ob2, x.ren l = y → renO l ob' ++ dropK ((keys ob1).map (rn l)) ob = ob2 → AL E ops rest Q ((d, y) :: sl) ob2) : AL E ops (⟨some d, .call { callee := .value c, args := xs.toArray, argTypes := ats }, ty, p, af, none⟩ :: rest) Q sl ob :=
  al_clocall (args := [a1]) l hc hf hz hE hd ha hL hK
theorem al_clocall2 {ops : Array Oper} {rest : List Oper} {Q : Exit → Act → World → Prop} {f : FuncId} {a1 a2 : V} {caps : List V} {ob1 : Objs} {new : List Nat} {Post : V → Objs → Prop} {zs : List V} {xs : List Operand} {ats : Array TypeId} (l : List (Nat × Nat)) (hc : ObC f (a1 :: a2 :: caps) ob1 new Post) (hf : ev sl c = .clo (.func f) zs) (hz : zs = V.renL l caps) (hE : Fine E) (hd : d < E.n) (ha : ArgsV l sl ob xs [a1, a2])
    (hL : Lends E sl ob l ob1 new)
    (hK : ∀ x ob', Post x ob' → ∀ y ob2, x.ren l = y → renO l ob' ++ dropK ((keys ob1).map (rn l)) ob = ob2 → AL E ops rest Q ((d, y) :: sl) ob2) : AL E ops (⟨some d, .call { callee := .value c, args := xs.toArray, argTypes := ats }, ty, p, af, none⟩ :: rest) Q sl ob :=
  al_clocall (args := [a1, a2]) l hc hf hz hE hd ha hL hK
theorem y_clo {f : FuncId} {xs : Array Operand} {zs : List V} (hx : xs.toList.map (ev sl) = zs) : Y E ⟨dd, .makeFunc (.func f) #[] xs, T, p, af, g⟩ sl ob (.clo (.func f) zs) := fun a w Pr β κ hg => by
  subst hx
  refine ⟨.func (.func f) #[] (xs.map a.eval), ?_, fun w' _ => by simp [execOp, Instr.makeFunc, Sem.run]⟩
  have : (xs.map a.eval) = (xs.toList.map a.eval).toArray := by apply Array.ext'; rw [Array.toList_map]
  rw [this]
  refine .clo _ _ _ (by rw [List.length_map, List.length_map]) (fun i v d h1 h2 => ?_)
  rw [List.getElem?_map, Option.map_eq_some_iff] at h1 h2
  obtain ⟨u, h3, rfl⟩ := h1
  obtain ⟨u', h4, rfl⟩ := h2
  rw [h3] at h4
  cases h4
  exact good_ev hg _
end
section
variable {E : Entry} {ops : List Oper} {Q : Exit → Act → World → Prop} {sl sl0 : Slots} {ob ob0 : Objs} {pl : List (Nat × Bool × Oper)} {i : Nat} {tail : (World → Prop) → Act → World → Prop} {g : Option (Nat × Bool)} {p : String} {af : Array Edge} {ty t T : TypeId} {d n : Nat} {op : Op}
/-- An operation that comes where it stands. -/
theorem am_now {x : V} (hw : Want ops sl true g) (h : Y E ⟨some d, op, ty, p, af, g⟩ sl ob x) (hd : d < E.n) (hK : AM E ops tail Q pl ((d, .und) :: sl0) ob0 ((d, x) :: sl) ob) : AM E ops tail Q ((i, false, ⟨some d, op, ty, p, af, g⟩) :: pl) sl0 ob0 sl ob :=
  ⟨fun a w0 w Pr Pr1 β β1 κ κ1 h0 h1 hn => by
    obtain ⟨v, hv, hr⟩ := h a w Pr1 β1 κ1 h1
    refine mix_move (hw.is h1) (fun K hKK => ?_)
    unfold Oper.wp
    rw [hr w (Kept.refl _ _ _ _), Oper.upon_value]
    exact hKK.out _ _ hn.kept fun _ => hK.run _ w0 w Pr Pr1 β β1 κ κ1 (h0.put hd (.und _)) (h1.put hd hv) hn⟩
set_option maxRecDepth 20000 in
/-- An append onto a row that may be changed and does not stand. -/
theorem am_vappend {x y : Operand} {i k e es eb : Nat} {ez : Value} {l l2 : List (List D)} {A : Array TypeId} (hw : Want ops sl true g) (hx : ev sl x = .row i k) (hf : find ob i = some (.vec e es k l)) (hk0 : find ob0 i = none) (hy : ToD ob (ev sl y) (.list es l2)) (hA : A = #[t, t]) (hT : ti t = .sl e es eb ez)
    (h1 : ∀ q ∈ l2, ∀ z ∈ q, D.one z = true) (hes : 0 < es) (hb : (l.length + l2.length) * eb ≤ 140737488355328) (hm : l.length + l2.length ≤ 140737488355328) (hd : d < E.n)
    (hK : AM E ops tail Q pl ((d, .und) :: sl0) ob0 ((d, .row i (k + 1)) :: sl) ((i, .vec e es (k + 1) (l ++ l2)) :: dropK [i] ob)) :
    AM E ops tail Q ((n, false, ⟨some d, .call { callee := .builtin .append, args := #[x, y], argTypes := A }, T, p, af, g⟩) :: pl) sl0 ob0 sl ob := by
  subst hA
  refine ⟨fun a w0 w Pr Pr1 β β1 κ κ1 h0 h hnw => ?_⟩
  refine mix_move (hw.is h) (fun K hKK => ?_)
  obtain ⟨v', w', β', κ', hrun, hG, hs, e3, e4, hlt, hbs, hgr⟩ := vapp_now (o := ⟨some d, .call { callee := .builtin .append, args := #[x, y], argTypes := #[t, t] }, T, p, af, g⟩) (l2 := l2) h hf hd (vapp_run (d := d) (T := T) (p := p) (af := af) (g := g) h hx hf ⟨Pr1, toD_rep h hy _ (good_ev h y), .inl rfl⟩ hT h1 hes hb hm)
  unfold Oper.wp
  rw [hrun, Oper.upon_value]
  have hbb : blk (β1 i) = (β1 i).ownBlock := by obtain ⟨_, _, _, q⟩ := hbs; exact ownBlock_blk q
  have hne : ∀ j o, find ob0 j = some o → j ≠ i := fun j o hj q => by rw [q, hk0] at hj; cases hj
  have hkept : Kept Pr β ob0 w0 w' := hnw.kept.trans (Pr1 := Pr1) ⟨hs, fun j o g h2 h3 => by
    have h4 := hnw.sub j o h2
    have hlt := ((h.objs j o h4.1).blkLt g (by rw [h4.2]; exact h3)).2
    refine hgr.block g hlt (fun q => hne j o h2 ?_)
    exact h.apart j i o _ g h4.1 hf (by rw [h4.2]; exact h3) (by rw [hbb]; exact q.symm), hgr.size⟩ hnw.pr
  refine hKK.out _ _ hkept fun _ => ?_
  refine hK.run _ w0 _ Pr Pr1 _ _ _ _ (h0.put hd (.und _)) hG ⟨hkept, hnw.pr, hnw.then_.trans (fun j => ?_), fun j o hj => ?_⟩
  · by_cases hj : j = i
    · subst hj
      exact .inr ⟨hlt, hbs⟩
    · exact .inl ⟨e3 j hj, e4 j hj⟩
  · have h4 := hnw.sub j o hj
    have hji := hne j o hj
    exact ⟨by rw [find_ne hji]; exact find_drop1 hji h4.1, (e3 j hji).trans h4.2⟩
end
end Go.Proofs.YtfgibalcdjlnhaaDoor
end
