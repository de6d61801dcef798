/-
  Conditions: none.
-/
import Derived.Test.YtaodngiigdbgeaaGreatDoorMaa
set_option maxHeartbeats 16000000
set_option maxRecDepth 20000
set_option linter.unusedSimpArgs false
set_option linter.unusedVariables false
namespace Go.Proofs.YtaodngiigdbgeaaGreatDoor
section
open Go.RowKit
inductive D where
 | val (v : Value)
 | list (s : Nat) (l : List (List D))
 | agg (l : List D)
 | tup (l : List D)
 | err
 | ifc (t : TypeId) (x : D)
inductive V where
 | und
 | d (x : D)
 | ep (l : List D) (o : Nat)
 | box (i o : Nat)
 | sl (i o n : Nat)
 | mp (i : Nat)
 | row (i k : Nat)
 | vp (i k o : Nat)
 | agg (l : List V)
 | clo (f : Fn) (l : List V)
 | mv (f : Fn) (l : List V)
 | tup (l : List V)
inductive O where
 | box (T : TypeId) (l : List V)
 | row (e : TypeId) (s k : Nat) (l : List (List D))
 | map (T : TypeId) (clock : Nat) (l : List (Nat × Value × D))
 | vec (e : TypeId) (s k : Nat) (l : List (List D))
 | byt (e : TypeId) (k : Nat) (l : List Value)
 | iter (v : V) (since : Nat) (seen : List Nat) (c0 : Nat)
abbrev D.int (n : Int) : D := .val (.int .i64 n)
abbrev D.bool (b : Bool) : D := .val (.bool b)
abbrev D.str (s : ByteArray) : D := .val (.string s)
abbrev Prot := Nat → Nat → Prop
abbrev Slots := List (Nat × V)
abbrev Objs := List (Nat × O)
def look : Slots → Nat → V
 | [], _ => .und
 | (j, v) :: r, i => bif Nat.beq i j then v else look r i
def find : Objs → Nat → Option O
 | [], _ => none
 | (j, v) :: r, i => bif Nat.beq i j then some v else find r i
theorem aBw {i j : Nat} (h : i ≠ j) : Nat.beq i j = false := by
 cases hb : Nat.beq i j
 ·rfl
 ·exact absurd (Nat.eq_of_beq_eq_true hb) h
theorem iK (i : Nat) (v : V) (r : Slots) : look ((i, v) :: r) i = v := by simp [look]
theorem jS {i j : Nat} (h : i ≠ j) (v : V) (r : Slots) : look ((j, v) :: r) i = look r i := by simp [look, aBw h]
theorem cN (i : Nat) (v : O) (r : Objs) : find ((i, v) :: r) i = some v := by simp [find]
theorem cE {i j : Nat} (h : i ≠ j) (v : O) (r : Objs) : find ((j, v) :: r) i = find r i := by simp [find, aBw h]
mutual
def V.has (i : Nat) : V → Bool
 | .box j _ => Nat.beq i j
 | .sl j _ _ => Nat.beq i j
 | .mp j => Nat.beq i j
 | .row j _ => Nat.beq i j
 | .vp j _ _ => Nat.beq i j
 | .agg l => V.hasL i l
 | .clo _ l => V.hasL i l
 | .mv _ l => V.hasL i l
 | .tup l => V.hasL i l
 | _ => false
def V.hasL (i : Nat) : List V → Bool
 | [] => false
 | v :: l => v.has i || V.hasL i l
end
def O.has (i : Nat) : O → Bool
 | .box _ l => V.hasL i l
 | .row .. => false
 | .map .. => false
 | .vec .. => false
 | .byt .. => false
 | .iter v _ _ _ => v.has i
def noneOf (i : Nat) (s : Slots) (o : Objs) : Bool := s.all (fun p => !p.2.has i) && o.all fun p => !p.2.has i
inductive RepD (w : World) (Pr : Prot) : Value → D → Prop where
 | val (v : Value) : RepD w Pr v (.val v)
 | nil (A : Option Addr) (c s : Nat) (hm : c ≤ maxLen) : RepD w Pr (.slice A 0 c) (.list s [])
 | list (b o n c s : Nat) (l : List (List D)) (u : Nat → Nat → Value) (hn : l.length = n) (hs : ∀ e ∈ l, e.length = s) (hc : n ≤ c) (hm : c ≤ maxLen)
   (hr : ∀ (i j : Nat) (e : List D) (d : D), l[i]? = some e → e[j]? = some d → w.cell? ⟨b, o + i * s + j, none⟩ = some (u i j) ∧ Pr b (o + i * s + j))
   (hd : ∀ (i j : Nat) (e : List D) (d : D), l[i]? = some e → e[j]? = some d → RepD w Pr (u i j) d) : RepD w Pr (.slice (some ⟨b, o, none⟩) n c) (.list s l)
 | agg (cs : List Value) (l : List D) (hl : cs.length = l.length) (hd : ∀ (i : Nat) (v : Value) (d : D), cs[i]? = some v → l[i]? = some d → RepD w Pr v d) : RepD w Pr (.agg cs.toArray) (.agg l)
 | tup (cs : List Value) (l : List D) (hl : cs.length = l.length) (hd : ∀ (i : Nat) (v : Value) (d : D), cs[i]? = some v → l[i]? = some d → RepD w Pr v d) : RepD w Pr (.tuple cs.toArray) (.tup l)
 | err (t : TypeId) (u : Value) : RepD w Pr (.iface t u) .err
 | ifc (t : TypeId) (u : Value) (x : D) (h : RepD w Pr u x) : RepD w Pr (.iface t u) (.ifc t x)
inductive RepV (w : World) (Pr : Prot) (β : Nat → Value) (κ : Nat → Nat) : Value → V → Prop where
 | und (v : Value) : RepV w Pr β κ v .und
 | d (v : Value) (x : D) (h : RepD w Pr v x) : RepV w Pr β κ v (.d x)
 | ep (b p o : Nat) (l : List D) (u : Nat → Value) (hr : ∀ (j : Nat) (d : D), l[j]? = some d → w.cell? ⟨b, p + j, none⟩ = some (u j) ∧ Pr b (p + j) ∧ RepD w Pr (u j) d) :
   RepV w Pr β κ (.pointer (some ⟨b, p + o, none⟩)) (.ep l o)
 | box (i o g : Nat) (h : β i = .pointer (some ⟨g, 0, none⟩)) : RepV w Pr β κ (.pointer (some ⟨g, o, none⟩)) (.box i o)
 | sl (i o n c g : Nat) (h : β i = .pointer (some ⟨g, 0, none⟩)) (hc : n ≤ c) (hm : c ≤ maxLen) (hz : κ i ≠ 0 → o = 0 → c = κ i) : RepV w Pr β κ (.slice (some ⟨g, o, none⟩) n c) (.sl i o n)
 | mp (i g : Nat) (h : β i = .map (some g)) : RepV w Pr β κ (.map (some g)) (.mp i)
 | row (i k : Nat) (v : Value) (hs : ∃ A n c, v = .slice A n c) (hk : k ≤ κ i) (h : k = κ i → v = β i) : RepV w Pr β κ v (.row i k)
 | vp (i k o : Nat) (v : Value) (hs : ∃ x, v = .pointer x) (hk : k ≤ κ i) (h : k = κ i → ∃ g n c, β i = .slice (some ⟨g, 0, none⟩) n c ∧ v = .pointer (some ⟨g, o, none⟩)) : RepV w Pr β κ v (.vp i k o)
 | agg (cs : List Value) (l : List V) (hl : cs.length = l.length) (hd : ∀ (i : Nat) (v : Value) (d : V), cs[i]? = some v → l[i]? = some d → RepV w Pr β κ v d) : RepV w Pr β κ (.agg cs.toArray) (.agg l)
 | clo (f : Fn) (cs : List Value) (l : List V) (hl : cs.length = l.length) (hd : ∀ (i : Nat) (v : Value) (d : V), cs[i]? = some v → l[i]? = some d → RepV w Pr β κ v d) : RepV w Pr β κ (.func f #[] cs.toArray) (.clo f l)
 | mv (f : Fn) (cs : List Value) (l : List V) (hl : cs.length = l.length) (hd : ∀ (i : Nat) (v : Value) (d : V), cs[i]? = some v → l[i]? = some d → RepV w Pr β κ v d) : RepV w Pr β κ (.func f cs.toArray #[]) (.mv f l)
 | tup (cs : List Value) (l : List V) (hl : cs.length = l.length) (hd : ∀ (i : Nat) (v : Value) (d : V), cs[i]? = some v → l[i]? = some d → RepV w Pr β κ v d) : RepV w Pr β κ (.tuple cs.toArray) (.tup l)
def KeyOk (T : TypeId) (v : Value) : Prop := ∃ kt et lit, Tryz.prog.underlying T = some (.map kt et) ∧ keyOf Tryz.prog kt v = some lit
structure MapOk (T : TypeId) (clock : Nat) (l : List (Nat × Value × D)) : Prop where
 nodup : (l.map (·.1)).Nodup
 lt : ∀ q ∈ l, q.1 < clock
 keys : (l.map (·.2.1)).Nodup
 ok : ∀ q ∈ l, KeyOk T q.2.1
def RepO (w : World) (Pr : Prot) (B : Nat) (β : Nat → Value) (κ : Nat → Nat) (i : Nat) : O → Prop
 | .box T l => ∃ (g : Nat) (cs : List Value), β i = .pointer (some ⟨g, 0, none⟩) ∧ B ≤ g ∧ w.heap[g]? = some (.cells cs.toArray T (0, 0)) ∧ cs.length = l.length ∧
   (∀ (j : Nat) (v : Value) (x : V), cs[j]? = some v → l[j]? = some x → RepV w Pr β κ v x) ∧ ∀ o, ¬ Pr g o
 | .row e s k l => κ i = k ∧ ∃ xs, w.ownsRow B e s (β i) l.length xs ∧ (∀ x ∈ l, x.length = s) ∧
   (∀ (p j : Nat) (x : List D) (d : D), l[p]? = some x → x[j]? = some d → ∃ u, xs[p * s + j]? = some u ∧ RepD w Pr u d) ∧
   ∀ g, (β i).ownBlock = some g → ∀ o, Pr g o ↔ o < l.length * s
 | .map T clock l => ∃ (g : Nat) (es : List MapEntry), β i = .map (some g) ∧ B ≤ g ∧ w.heap[g]? = some (.map es.toArray clock) ∧ (es.map (fun x => (x.born, x.key)) = l.map (fun q => (q.1, q.2.1)) ∧ MapOk T clock l) ∧
   (∀ (j : Nat) (x : MapEntry) (q : Nat × Value × D), es[j]? = some x → l[j]? = some q → RepD w Pr x.val q.2.2) ∧ ∀ o, ¬ Pr g o
 | .vec e s k l => κ i = k ∧ ∃ xs, w.ownsRow B e s (β i) l.length xs ∧ (∀ x ∈ l, x.length = s) ∧
   (∀ (p j : Nat) (x : List D) (d : D), l[p]? = some x → x[j]? = some d → ∃ u, xs[p * s + j]? = some u ∧ RepD w Pr u d) ∧
   ∀ g, (β i).ownBlock = some g → ∀ o, ¬ Pr g o
 | .byt e k l => κ i = k ∧ ∃ (g cap : Nat) (cur : Array Value) (fz : Nat × Nat), β i = .slice (some ⟨g, 0, none⟩) l.length cap ∧ B ≤ g ∧ w.heap[g]? = some (.cells cur e fz) ∧ (fz = (0, 0) ∨ cap ≤ fz.1) ∧ (l.length ≤ cap ∧ cap ≤ maxLen ∧ cur.size = cap ∧ cur.toList.take l.length = l) ∧ ∀ o, ¬ Pr g o
 | .iter v since seen c0 => ∃ g gm : Nat, β i = .pointer (some ⟨g, 0, none⟩) ∧ B ≤ g ∧ w.heap[g]? = some (.mapIter (some gm) since seen.toArray c0) ∧ RepV w Pr β κ (.map (some gm)) v ∧ ∀ o, ¬ Pr g o
def blk : Value → Option Nat
 | .pointer (some a) => some a.block
 | .slice (some a) _ _ => some a.block
 | .map r => r
 | _ => none
structure Entry where
 w : World
 pr : Prot
 n : Nat
 ob0 : Objs
 β0 : Nat → Value
 κ0 : Nat → Nat
 df : List Deferred
def Lent (ob : Objs) (β : Nat → Value) (g : Nat) : Prop := ∃ i o, find ob i = some o ∧ blk (β i) = some g
theorem rZ {β : Nat → Value} {g : Nat} : ¬ Lent [] β g := fun ⟨_, _, h, _⟩ => by simp [find] at h
structure Under (L : Nat → Prop) (w w' : World) : Prop where
 os : w'.os = w.os
 tape : w'.tape = w.tape
 output : w'.output = w.output
 size : w.heap.size ≤ w'.heap.size
 block : ∀ k, k < w.heap.size → ¬ L k → w'.heap[k]? = w.heap[k]?
theorem Under.refl (L : Nat → Prop) (w : World) : Under L w w := ⟨rfl, rfl, rfl, Nat.le_refl _, fun _ _ _ => rfl⟩
theorem Under.trans {L : Nat → Prop} {a b c : World} (h : Under L a b) (k : Under L b c) : Under L a c :=
 ⟨k.os.trans h.os, k.tape.trans h.tape, k.output.trans h.output, Nat.le_trans h.size k.size, fun i hi hn => (k.block i (Nat.lt_of_lt_of_le hi h.size) hn).trans (h.block i hi hn)⟩
theorem Under.then {L M : Nat → Prop} {a b c : World} (h : Under L a b) (k : Under M b c) (hM : ∀ g, M g → L g ∨ a.heap.size ≤ g) : Under L a c :=
 ⟨k.os.trans h.os, k.tape.trans h.tape, k.output.trans h.output, Nat.le_trans h.size k.size, fun i hi hn => (k.block i (Nat.lt_of_lt_of_le hi h.size) (fun hm => (hM i hm).elim hn (fun h1 => by omega))).trans (h.block i hi hn)⟩
theorem Under.of_below (L : Nat → Prop) {w w' : World} (h : Below w.heap.size w w') : Under L w w' := ⟨h.os, h.tape, h.output, h.size, fun k hk _ => h.block k hk⟩
theorem Under.below {w w' : World} {β : Nat → Value} (h : Under (Lent [] β) w w') : Below w.heap.size w w' := ⟨h.os, h.tape, h.output, h.size, fun k hk => h.block k hk rZ⟩
def Stays (Pr : Prot) (w w' : World) : Prop := ∀ b o, Pr b o → w'.cell? ⟨b, o, none⟩ = w.cell? ⟨b, o, none⟩
structure Good (E : Entry) (sl : Slots) (ob : Objs) (a : Act) (w : World) (Pr : Prot) (β : Nat → Value) (κ : Nat → Nat) : Prop where
 below : Under (Lent E.ob0 E.β0) E.w w
 st0 : Stays E.pr E.w w
 pr0 : ∀ b o, E.pr b o → Pr b o
 prn : ∀ b o, Pr b o → E.pr b o ∨ E.w.heap.size ≤ b ∨ Lent E.ob0 E.β0 b
 prl : ∀ b o, Pr b o → b < w.heap.size
 size : a.tmps.size = E.n
 defers : a.defers = E.df
 slots : ∀ i, RepV w Pr β κ (a.tmps.getD i undef) (look sl i)
 objs : ∀ i o, find ob i = some o → RepO w Pr 0 β κ i o
 apart : ∀ i j oi oj g, find ob i = some oi → find ob j = some oj → blk (β i) = some g → blk (β j) = some g → i = j
 own : ∀ i o g, find ob i = some o → blk (β i) = some g → Lent E.ob0 E.β0 g ∨ E.w.heap.size ≤ g
 keeps : ∀ i o, find E.ob0 i = some o → (β i = E.β0 i ∧ κ i = E.κ0 i) ∨ (E.κ0 i < κ i ∧ ∃ A n c, E.β0 i = .slice A n c)
 fresh : ∀ i o, find E.ob0 i = some o → E.n ≤ i
def Inv (E : Entry) (sl : Slots) (ob : Objs) (a : Act) (w : World) : Prop := ∃ Pr β κ, Good E sl ob a w Pr β κ
section
variable {w w' : World} {Pr Pr' : Prot} {β β' : Nat → Value} {κ κ' : Nat → Nat}
theorem RepD.keep {v : Value} {d : D} (h : RepD w Pr v d) (hs : Stays Pr w w') (hp : ∀ b o, Pr b o → Pr' b o) : RepD w' Pr' v d := by
 induction h with
 | val v => exact .val v
 | nil A c s hm => exact .nil A c s hm
 | list b o n c s l u hn hss hc hm hr hd ih =>
  exact .list b o n c s l u hn hss hc hm (fun i j e d h1 h2 => ⟨(hs _ _ (hr i j e d h1 h2).2).trans (hr i j e d h1 h2).1, hp _ _ (hr i j e d h1 h2).2⟩) ih
 | agg cs l hl hd ih => exact .agg cs l hl ih
 | tup cs l hl hd ih => exact .tup cs l hl ih
 | err t u => exact .err t u
 | ifc t u x h ih => exact .ifc t u x ih
theorem RepV.keep {v : Value} {x : V} (h : RepV w Pr β κ v x) (hs : Stays Pr w w') (hp : ∀ b o, Pr b o → Pr' b o) : RepV w' Pr' β κ v x := by
 induction h with
 | und v => exact .und v
 | d v x h => exact .d v x (h.keep hs hp)
 | ep b p o l u hr => exact .ep b p o l u (fun j d hj => ⟨(hs _ _ (hr j d hj).2.1).trans (hr j d hj).1, hp _ _ (hr j d hj).2.1, (hr j d hj).2.2.keep hs hp⟩)
 | box i o g h => exact .box i o g h
 | sl i o n c g h hc hm hz => exact .sl i o n c g h hc hm hz
 | mp i g h => exact .mp i g h
 | row i k v hs hk h => exact .row i k v hs hk h
 | vp i k o v hs hk h => exact .vp i k o v hs hk h
 | agg cs l hl hd ih => exact .agg cs l hl ih
 | clo f cs l hl hd ih => exact .clo f cs l hl ih
 | mv f cs l hl hd ih => exact .mv f cs l hl ih
 | tup cs l hl hd ih => exact .tup cs l hl ih
theorem RepV.d_inv {v : Value} {x : D} (h : RepV w Pr β κ v (.d x)) : RepD w Pr v x := by
 cases h with
 | d _ _ h => exact h
theorem RepV.val_inv {v u : Value} (h : RepV w Pr β κ v (.d (.val u))) : v = u := by
 cases h.d_inv
 rfl
theorem RepV.row_inv {v : Value} {i k : Nat} (h : RepV w Pr β κ v (.row i k)) (hk : k = κ i) : v = β i := by
 cases h with
 | row _ _ _ _ _ hv => exact hv hk
theorem gJ {i : Nat} {l : List V} {j : Nat} {x : V} (h : V.hasL i l = false) (hx : l[j]? = some x) : x.has i = false := by
 induction l generalizing j with
 | nil => simp at hx
 | cons y l ih =>
  simp only [V.hasL, Bool.or_eq_false_iff] at h
  cases j with
  | zero => simp at hx; exact hx ▸ h.1
  | succ j => exact ih h.2 (by simpa using hx)
theorem RepV.other {v : Value} {x : V} {i : Nat} (h : RepV w Pr β κ v x) (hx : x.has i = false) (hβ : ∀ j, j ≠ i → β' j = β j) (hκ : ∀ j, j ≠ i → κ' j = κ j) : RepV w Pr β' κ' v x := by
 induction h with
 | und v => exact .und v
 | d v x h => exact .d v x h
 | ep b p o l u hr => exact .ep b p o l u hr
 | box j o g h =>
  simp only [V.has] at hx
  exact .box j o g ((hβ j (by rintro rfl; simp at hx)).trans h)
 | sl j o n c g h hc hm hz =>
  simp only [V.has] at hx
  have hne : j ≠ i := by rintro rfl; simp at hx
  exact .sl j o n c g ((hβ j hne).trans h) hc hm (by rw [hκ j hne]; exact hz)
 | mp j g h =>
  simp only [V.has] at hx
  exact .mp j g ((hβ j (by rintro rfl; simp at hx)).trans h)
 | row j k v hs hk h =>
  simp only [V.has] at hx
  have hne : j ≠ i := by rintro rfl; simp at hx
  exact .row j k v hs (by rw [hκ j hne]; exact hk) (fun e => (h (by rw [← hκ j hne]; exact e)).trans (hβ j hne).symm)
 | vp j k o v hs hk h =>
  simp only [V.has] at hx
  have hne : j ≠ i := by rintro rfl; simp at hx
  exact .vp j k o v hs (by rw [hκ j hne]; exact hk) (fun e => by rw [hβ j hne]; exact h (by rw [← hκ j hne]; exact e))
 | agg cs l hl hd ih =>
  simp only [V.has] at hx
  exact .agg cs l hl (fun j v d h1 h2 => ih j v d h1 h2 (gJ hx h2))
 | clo f cs l hl hd ih =>
  simp only [V.has] at hx
  exact .clo f cs l hl (fun j v d h1 h2 => ih j v d h1 h2 (gJ hx h2))
 | mv f cs l hl hd ih =>
  simp only [V.has] at hx
  exact .mv f cs l hl (fun j v d h1 h2 => ih j v d h1 h2 (gJ hx h2))
 | tup cs l hl hd ih =>
  simp only [V.has] at hx
  exact .tup cs l hl (fun j v d h1 h2 => ih j v d h1 h2 (gJ hx h2))
theorem RepV.chg {v : Value} {x : V} (h : RepV w Pr β κ v x) (hx : ∀ i, x.has i = true → (β' i = β i ∧ κ' i = κ i) ∨ (κ i < κ' i ∧ ∃ A n c, β i = .slice A n c)) : RepV w Pr β' κ' v x := by
 have mem : ∀ {l : List V} {j : Nat} {x : V} {i : Nat}, l[j]? = some x → x.has i = true → V.hasL i l = true := by
  intro l j x i h1 h2
  cases h3 : V.hasL i l with
  | true => rfl
  | false => rw [gJ h3 h1] at h2; cases h2
 induction h with
 | und v => exact .und v
 | d v x h => exact .d v x h
 | ep b p o l u hr => exact .ep b p o l u hr
 | box i o g h =>
  rcases hx i (by simp [V.has]) with ⟨h1, _⟩ | ⟨_, A, n, c, h1⟩
  ·exact .box i o g (h1.trans h)
  ·rw [h] at h1; cases h1
 | sl i o n c g h hc hm hz =>
  rcases hx i (by simp [V.has]) with ⟨h1, h2⟩ | ⟨_, A, n, c, h1⟩
  ·exact .sl i o _ _ g (h1.trans h) hc hm (by rw [h2]; exact hz)
  ·rw [h] at h1; cases h1
 | mp i g h =>
  rcases hx i (by simp [V.has]) with ⟨h1, _⟩ | ⟨_, A, n, c, h1⟩
  ·exact .mp i g (h1.trans h)
  ·rw [h] at h1; cases h1
 | row i k v hs hk h =>
  rcases hx i (by simp [V.has]) with ⟨h1, h2⟩ | ⟨h1, _⟩
  ·exact .row i k v hs zb (fun e => (h zb).trans h1.symm)
  ·exact .row i k v hs zb (fun e => by omega)
 | vp i k o v hs hk h =>
  rcases hx i (by simp [V.has]) with ⟨h1, h2⟩ | ⟨h1, _⟩
  ·exact .vp i k o v hs zb (fun e => by rw [h1]; exact h zb)
  ·exact .vp i k o v hs zb (fun e => by omega)
 | agg cs l hl hd ih => exact .agg cs l hl (fun j v d h1 h2 => ih j v d h1 h2 (fun i hi => hx i (by simp only [V.has]; exact mem h2 hi)))
 | clo f cs l hl hd ih => exact .clo f cs l hl (fun j v d h1 h2 => ih j v d h1 h2 (fun i hi => hx i (by simp only [V.has]; exact mem h2 hi)))
 | mv f cs l hl hd ih => exact .mv f cs l hl (fun j v d h1 h2 => ih j v d h1 h2 (fun i hi => hx i (by simp only [V.has]; exact mem h2 hi)))
 | tup cs l hl hd ih => exact .tup cs l hl (fun j v d h1 h2 => ih j v d h1 h2 (fun i hi => hx i (by simp only [V.has]; exact mem h2 hi)))
theorem RepV.newer {v : Value} {x : V} {i : Nat} (h : RepV w Pr β κ v x) (hβ : ∀ j, j ≠ i → β' j = β j) (hκ : ∀ j, j ≠ i → κ' j = κ j) (hi : κ i < κ' i) (hb : ∃ A n c, β i = .slice A n c) : RepV w Pr β' κ' v x := by
 induction h with
 | und v => exact .und v
 | d v x h => exact .d v x h
 | ep b p o l u hr => exact .ep b p o l u hr
 | box j o g h => exact .box j o g ((hβ j (by rintro rfl; obtain ⟨_, _, _, e⟩ := hb; rw [h] at e; cases e)).trans h)
 | sl j o n c g h hc hm hz =>
  have hne : j ≠ i := by rintro rfl; obtain ⟨_, _, _, e⟩ := hb; rw [h] at e; cases e
  exact .sl j o n c g ((hβ j hne).trans h) hc hm (by rw [hκ j hne]; exact hz)
 | mp j g h => exact .mp j g ((hβ j (by rintro rfl; obtain ⟨_, _, _, e⟩ := hb; rw [h] at e; cases e)).trans h)
 | row j k v hs hk h =>
  by_cases hj : j = i
  ·subst hj
   exact .row j k v hs zb (fun e => by omega)
  ·exact .row j k v hs (by rw [hκ j hj]; exact hk) (fun e => (h (by rw [← hκ j hj]; exact e)).trans (hβ j hj).symm)
 | vp j k o v hs hk h =>
  by_cases hj : j = i
  ·subst hj
   exact .vp j k o v hs zb (fun e => by omega)
  ·exact .vp j k o v hs (by rw [hκ j hj]; exact hk) (fun e => by rw [hβ j hj]; exact h (by rw [← hκ j hj]; exact e))
 | agg cs l hl hd ih => exact .agg cs l hl ih
 | clo f cs l hl hd ih => exact .clo f cs l hl ih
 | mv f cs l hl hd ih => exact .mv f cs l hl ih
 | tup cs l hl hd ih => exact .tup cs l hl ih
theorem sK {B n s : Nat} {e : TypeId} {v : Value} {xs : List Value} (h : w.ownsRow B e s v n xs) (hk : ∀ g, v.ownBlock = some g → w'.heap[g]? = w.heap[g]?) : w'.ownsRow B e s v n xs := by
 refine ⟨h.1, ?_⟩
 rcases h.2 with h0 | ⟨g, cap, cur, rfl, k1, k2, k3⟩
 ·exact .inl h0
 ·exact .inr ⟨g, cap, cur, rfl, k1, (hk g rfl).trans k2, k3⟩
theorem RepO.blkLt {B i : Nat} {o : O} (h : RepO w Pr B β κ i o) : ∀ g, blk (β i) = some g → B ≤ g ∧ g < w.heap.size := by
 intro g hg
 cases o with
 | box T l =>
  obtain ⟨g', cs, hb, hB, hh, _⟩ := h
  rw [hb] at hg
  simp only [blk, Option.some.injEq] at hg
  subst hg
  exact ⟨hB, (Array.getElem?_eq_some_iff.1 hh).1⟩
 | row e s k l =>
  obtain ⟨_, xs, hown, _⟩ := h
  refine hown.lt g ?_
  rcases hown.2 with ⟨h0, _⟩ | ⟨g', cap, cur, h0, _⟩
  ·rw [h0] at hg; simp [blk] at hg
  ·rw [h0] at hg ⊢
   simpa [blk, Value.ownBlock] using hg
 | vec e s k l =>
  obtain ⟨_, xs, hown, _⟩ := h
  refine hown.lt g ?_
  rcases hown.2 with ⟨h0, _⟩ | ⟨g', cap, cur, h0, _⟩
  ·rw [h0] at hg; simp [blk] at hg
  ·rw [h0] at hg ⊢
   simpa [blk, Value.ownBlock] using hg
 | byt e k l =>
  obtain ⟨_, g', cap, cur, fz, hb, hB, hh, _⟩ := h
  rw [hb] at hg
  simp only [blk, Option.some.injEq] at hg
  subst hg
  exact ⟨hB, (Array.getElem?_eq_some_iff.1 hh).1⟩
 | map T c l =>
  obtain ⟨g', es, hb, hB, hh, _⟩ := h
  rw [hb] at hg
  simp only [blk, Option.some.injEq] at hg
  subst hg
  exact ⟨hB, (Array.getElem?_eq_some_iff.1 hh).1⟩
 | iter v s n c =>
  obtain ⟨g', gm, hb, hB, hh, _⟩ := h
  rw [hb] at hg
  simp only [blk, Option.some.injEq] at hg
  subst hg
  exact ⟨hB, (Array.getElem?_eq_some_iff.1 hh).1⟩
theorem RepO.keep2 {B i : Nat} {o : O} (h : RepO w Pr B β κ i o) (hs : Stays Pr w w') (hp : ∀ b o, Pr b o → Pr' b o) (hn : ∀ g, blk (β i) = some g → ∀ o, Pr' g o → Pr g o)
  (hk : ∀ g, blk (β i) = some g → w'.heap[g]? = w.heap[g]?) : RepO w' Pr' B β κ i o := by
 cases o with
 | box T l =>
  obtain ⟨g, cs, hb, hB, hh, hl, hv, hno⟩ := h
  exact ⟨g, cs, hb, hB, (hk g (by rw [hb]; rfl)).trans hh, hl, fun j v x h1 h2 => (hv j v x h1 h2).keep hs hp, fun o ho => hno o (hn g (by rw [hb]; rfl) o ho)⟩
 | row e s k l =>
  obtain ⟨h1, xs, hown, hls, hd, hpr⟩ := h
  have hb : ∀ g, (β i).ownBlock = some g → blk (β i) = some g := by
   intro g hg
   cases hv : β i with
   | slice A n c => rw [hv] at hg; cases A with | none => simp [Value.ownBlock] at hg | some a => simpa [Value.ownBlock, blk] using hg
   | _ => rw [hv] at hg; simp [Value.ownBlock] at hg
  refine ⟨h1, xs, sK hown (fun g hg => hk g (hb g hg)), hls, fun p j x d h1 h2 => ?_, fun g hg o => ⟨fun ho => (hpr g hg o).1 (hn g (hb g hg) o ho), fun ho => hp _ _ ((hpr g hg o).2 ho)⟩⟩
  obtain ⟨u, hu, hr⟩ := hd p j x d h1 h2
  exact ⟨u, hu, hr.keep hs hp⟩
 | vec e s k l =>
  obtain ⟨h1, xs, hown, hls, hd, hpr⟩ := h
  have hb : ∀ g, (β i).ownBlock = some g → blk (β i) = some g := by
   intro g hg
   cases hv : β i with
   | slice A n c => rw [hv] at hg; cases A with | none => simp [Value.ownBlock] at hg | some a => simpa [Value.ownBlock, blk] using hg
   | _ => rw [hv] at hg; simp [Value.ownBlock] at hg
  refine ⟨h1, xs, sK hown (fun g hg => hk g (hb g hg)), hls, fun p j x d h1 h2 => ?_, fun g hg o ho => hpr g hg o (hn g (hb g hg) o ho)⟩
  obtain ⟨u, hu, hr⟩ := hd p j x d h1 h2
  exact ⟨u, hu, hr.keep hs hp⟩
 | byt e k l =>
  obtain ⟨h1, g, cap, cur, fz, hb, hB, hh, hf, hc, hno⟩ := h
  exact ⟨h1, g, cap, cur, fz, hb, hB, (hk g (by rw [hb]; rfl)).trans hh, hf, hc, fun o ho => hno o (hn g (by rw [hb]; rfl) o ho)⟩
 | map T c l =>
  obtain ⟨g, es, hb, hB, hh, hl, hv, hno⟩ := h
  exact ⟨g, es, hb, hB, (hk g (by rw [hb]; rfl)).trans hh, hl, fun j x q h1 h2 => (hv j x q h1 h2).keep hs hp, fun o ho => hno o (hn g (by rw [hb]; rfl) o ho)⟩
 | iter v s n c =>
  obtain ⟨g, gm, hb, hB, hh, hv, hno⟩ := h
  exact ⟨g, gm, hb, hB, (hk g (by rw [hb]; rfl)).trans hh, hv.keep hs hp, fun o ho => hno o (hn g (by rw [hb]; rfl) o ho)⟩
theorem RepO.keep {B i : Nat} {o : O} (h : RepO w Pr B β κ i o) (hs : Stays Pr w w') (hp : ∀ b o, Pr b o → Pr' b o) (hn : ∀ b o, Pr' b o → Pr b o ∨ w.heap.size ≤ b)
  (hk : ∀ g, blk (β i) = some g → w'.heap[g]? = w.heap[g]?) : RepO w' Pr' B β κ i o := by
 have hlt := h.blkLt
 exact h.keep2 hs hp (fun g hg o ho => (hn g o ho).elim id fun h1 => by have := (hlt g hg).2; omega) hk
end
section
variable {E : Entry} {sl sl' : Slots} {ob ob' : Objs} {a : Act} {w w' : World} {Pr Pr' : Prot} {β : Nat → Value} {κ : Nat → Nat}
theorem iH (h : Good E sl ob a w Pr β κ) (hx : Below w.heap.size w w') : Stays Pr w w' := fun b _ hp => hx.cell (p := ⟨b, _, none⟩) (h.prl b _ hp)
theorem Good.grow (h : Good E sl ob a w Pr β κ) (hx : Below w.heap.size w w') (hp : ∀ b o, Pr b o → Pr' b o) (hn : ∀ b o, Pr' b o → Pr b o ∨ (w.heap.size ≤ b ∧ b < w'.heap.size)) : Good E sl ob a w' Pr' β κ := by
 have hs := iH h hx
 have hE := h.below.size
 refine ⟨h.below.trans (.of_below _ hx), fun b o ho => (hs b o (h.pr0 b o ho)).trans (h.st0 b o ho), fun b o ho => hp b o (h.pr0 b o ho), fun b o ho => ?_, fun b o ho => ?_, h.size, h.defers, fun i => (h.slots i).keep hs hp, fun i o ho => ?_, h.apart, h.own, h.keeps, h.fresh⟩
 ·rcases hn b o ho with h1 | h1
  ·exact h.prn b o h1
  ·exact .inr (.inl zb)
 ·rcases hn b o ho with h1 | h1
  ·have := h.prl b o h1
   have := hx.size
   omega
  ·exact h1.2
 ·exact (h.objs i o ho).keep hs hp (fun b o ho => (hn b o ho).imp id (·.1)) (fun g hg => hx.block g ((h.objs i o ho).blkLt g hg).2)
theorem Act.getD_put (a : Act) (d i : Nat) (v : Value) (hd : d < a.tmps.size) : (a.put (some d) v).tmps.getD i undef = if i = d then v else a.tmps.getD i undef := by
 simp only [Act.put, Array.getD_eq_getD_getElem?, Array.getElem?_setIfInBounds]
 by_cases h : i = d
 ·subst h; simp [hd]
 ·simp [h, Ne.symm h]
theorem Good.put (h : Good E sl ob a w Pr β κ) {d : Nat} (hd : d < E.n) {v : Value} {x : V} (hv : RepV w Pr β κ v x) : Good E ((d, x) :: sl) ob (a.put (some d) v) w Pr β κ := by
 refine ⟨h.below, h.st0, h.pr0, h.prn, h.prl, by simp [Act.put, h.size], by simp [Act.put, h.defers], fun i => ?_, h.objs, h.apart, h.own, h.keeps, h.fresh⟩
 rw [Act.getD_put a d i v (by rw [h.size]; exact hd)]
 by_cases hi : i = d
 ·subst hi
  rw [if_pos rfl, iK]
  exact hv
 ·rw [if_neg hi, jS hi]
  exact h.slots i
theorem Good.less (h : Good E sl ob a w Pr β κ) (hs : ∀ p ∈ sl', look sl p.1 = p.2) (ho : ∀ p ∈ ob', find ob p.1 = some p.2) : Good E sl' ob' a w Pr β κ := by
 have hl : ∀ (l : Slots), (∀ p ∈ l, look sl p.1 = p.2) → ∀ i, look l i = .und ∨ look l i = look sl i := by
  intro l hl i
  induction l with
  | nil => exact .inl rfl
  | cons p l ih =>
   obtain ⟨j, v⟩ := p
   by_cases hi : i = j
   ·subst hi
    rw [iK]
    exact .inr (hl (i, v) (by simp)).symm
   ·rw [jS hi]
    exact ih (fun p hp => hl p (by simp [hp]))
 have hf : ∀ (l : Objs), (∀ p ∈ l, find ob p.1 = some p.2) → ∀ i x, find l i = some x → find ob i = some x := by
  intro l hl i x hx
  induction l with
  | nil => simp [find] at hx
  | cons p l ih =>
   obtain ⟨j, v⟩ := p
   by_cases hi : i = j
   ·subst hi
    rw [cN] at hx
    cases hx
    exact hl (i, _) (by simp)
   ·rw [cE hi] at hx
    exact ih (fun p hp => hl p (by simp [hp])) hx
 refine ⟨h.below, h.st0, h.pr0, h.prn, h.prl, h.size, h.defers, fun i => ?_, fun i o hio => h.objs i o (hf ob' ho i o hio), fun i j oi oj g h1 h2 => h.apart i j oi oj g (hf ob' ho i oi h1) (hf ob' ho j oj h2), fun i o g h1 => h.own i o g (hf ob' ho i o h1), h.keeps, h.fresh⟩
 rcases hl sl' hs i with h1 | h1
 ·rw [h1]; exact .und _
 ·rw [h1]; exact h.slots i
theorem Inv.less (h : Inv E sl ob a w) (hs : ∀ p ∈ sl', look sl p.1 = p.2) (ho : ∀ p ∈ ob', find ob p.1 = some p.2) : Inv E sl' ob' a w := by
 obtain ⟨Pr, β, κ, h⟩ := h
 exact ⟨Pr, β, κ, h.less hs ho⟩
end
end
section
open Go.RowKit
def ev (sl : Slots) : Operand → V
 | .tmp t => look sl t
 | .const v => .d (.val v)
 | .func f => .d (.val (.func (.func f) #[] #[]))
 | .global g => .d (.val (.pointer (some ⟨g, 0, none⟩)))
structure Kept (Pr : Prot) (β : Nat → Value) (ob : Objs) (w w' : World) : Prop where
 stays : Stays Pr w w'
 objs : ∀ i o g, find ob i = some o → blk (β i) = some g → w'.heap[g]? = w.heap[g]?
 size : w.heap.size ≤ w'.heap.size
theorem Kept.refl (Pr : Prot) (β : Nat → Value) (ob : Objs) (w : World) : Kept Pr β ob w w := ⟨fun _ _ _ => rfl, fun _ _ _ _ _ => rfl, Nat.le_refl _⟩
def Y (E : Entry) (o : Oper) (sl : Slots) (ob : Objs) (x : V) : Prop :=
 ∀ a w Pr β κ, Good E sl ob a w Pr β κ → ∃ v, RepV w Pr β κ v x ∧ ∀ w', Kept Pr β ob w w' → (execOp a.eval o).run Tryz.prog w' = .ok (.value v) w'
def Step (E : Entry) (o : Oper) (sl : Slots) (ob : Objs) (sl' : Slots) (ob' : Objs) : Prop :=
 ∀ a w, Inv E sl ob a w → ∀ (K : Act → World → Prop) (Q : Exit → Act → World → Prop), (∀ a' w', Inv E sl' ob' a' w' → K a' w') → o.wp Tryz.prog a w K Q
structure AL (E : Entry) (ops : Array Oper) (rest : List Oper) (Q : Exit → Act → World → Prop) (sl : Slots) (ob : Objs) : Prop where
 run : ∀ a w, Inv E sl ob a w → wpList Tryz.prog ops Q rest a w
structure AW (E : Entry) (c : Code) (Q : Exit → Act → World → Prop) (sl : Slots) (ob : Objs) : Prop where
 run : ∀ a w, Inv E sl ob a w → c.wp Tryz.prog Q a w
structure AQ (E : Entry) (e : Exit) (Q : Exit → Act → World → Prop) (sl : Slots) (ob : Objs) : Prop where
 run : ∀ a w, Inv E sl ob a w → Q e a w
section
variable {E : Entry} {sl sl' : Slots} {ob ob' : Objs} {ops : Array Oper} {rest : List Oper} {Q : Exit → Act → World → Prop} {o : Oper}
theorem Y.step {x : V} {d : Nat} (h : Y E o sl ob x) (ho : o.dst = some d) (hd : d < E.n) : Step E o sl ob ((d, x) :: sl) ob := by
 rintro a w ⟨Pr, β, κ, hg⟩ K Q hK
 obtain ⟨v, hv, hr⟩ := h a w Pr β κ hg
 unfold Oper.wp
 rw [hr w (.refl Pr β ob w), Oper.upon_value, ho]
 exact hK _ _ ⟨Pr, β, κ, hg.put hd hv⟩
theorem aD (h : Step E o sl ob sl' ob') (hg : o.guard = none) (hK : AL E ops rest Q sl' ob') : AL E ops (o :: rest) Q sl ob :=
 ⟨fun a w hi => wpList_plain hg fun K hKK => h a w hi K Q fun a' w' hi' => hKK _ _ (hK.run a' w' hi')⟩
theorem aK {x : V} {d : Nat} {op : Op} {t : TypeId} {p : String} {af : Array Edge} (h : Y E ⟨some d, op, t, p, af, none⟩ sl ob x) (hd : d < E.n) (hK : AL E ops rest Q ((d, x) :: sl) ob) :
  AL E ops (⟨some d, op, t, p, af, none⟩ :: rest) Q sl ob := aD (h.step rfl hd) rfl hK
theorem uD {a : Act} {w : World} {o : Oper} {j t : Nat} {want b : Bool} (hi : Inv E sl ob a w) (hg : o.guard = some (j, want)) (hj : (ops[j]?).bind (·.dst) = some t) (hb : look sl t = .d (.val (.bool b))) :
  Region.wanted o (yielded ops a.tmps) = (b == want) := by
 obtain ⟨Pr, β, κ, hgd⟩ := hi
 have h := hgd.slots t
 rw [hb] at h
 have hv : a.tmps.getD t undef = .bool b := h.val_inv
 have hget : a.tmps[t]? = some (.bool b) := by
  rw [Array.getD_eq_getD_getElem?] at hv
  cases hx : a.tmps[t]? with
  | none => rw [hx] at hv; simp [undef] at hv
  | some y => rw [hx] at hv; simpa using hv
 simp [Region.wanted, hg, yielded, hj, hget]
theorem yJ {a : Act} {op : Op} {dd : Option Nat} {ty : TypeId} {p : String} {af : Array Edge} {j t : Nat} {want : Bool} (hj : (ops[j]?).bind (·.dst) = some t) (hv : a.tmps.getD t undef = undef) : Region.wanted ⟨dd, op, ty, p, af, some (j, want)⟩ (yielded ops a.tmps) = false := by
 rw [Array.getD_eq_getD_getElem?] at hv
 cases hx : a.tmps[t]? with
 | none => simp [Region.wanted, yielded, hj, hx]
 | some y =>
  rw [hx] at hv
  simp only [Option.getD_some] at hv
  subst hv
  simp [Region.wanted, yielded, hj, hx, undef]
theorem aId {op : Op} {d : Option Nat} {ty : TypeId} {p : String} {af : Array Edge} {j t : Nat} {want b : Bool} (hj : (ops[j]?).bind (·.dst) = some t) (hb : look sl t = .d (.val (.bool b))) (hw : b = want)
  (h : AL E ops (⟨d, op, ty, p, af, none⟩ :: rest) Q sl ob) : AL E ops (⟨d, op, ty, p, af, some (j, want)⟩ :: rest) Q sl ob := by
 refine ⟨fun a w hi => ?_⟩
 have h1 := h.run a w hi
 have hwa := uD (ops := ops) (o := ⟨d, op, ty, p, af, some (j, want)⟩) hi rfl hj hb
 unfold wpList at h1 ⊢
 rw [hwa, hw]
 simpa [Region.wanted, Oper.wp, Oper.asks, execOp, Oper.upon] using h1
theorem aMr {op : Op} {d : Nat} {ty : TypeId} {p : String} {af : Array Edge} {j t : Nat} {want b : Bool} (hj : (ops[j]?).bind (·.dst) = some t) (hb : look sl t = .d (.val (.bool b))) (hw : b ≠ want) (hd : d < E.n)
  (h : AL E ops rest Q ((d, .d (.val undef)) :: sl) ob) : AL E ops (⟨some d, op, ty, p, af, some (j, want)⟩ :: rest) Q sl ob := by
 refine ⟨fun a w hi => ?_⟩
 have hwa := uD (ops := ops) (o := ⟨some d, op, ty, p, af, some (j, want)⟩) hi rfl hj hb
 obtain ⟨Pr, β, κ, hg⟩ := hi
 unfold wpList
 rw [hwa, if_neg (by simpa using hw)]
 exact h.run _ _ ⟨Pr, β, κ, hg.put hd (.d _ _ (.val _))⟩
theorem aDg {op : Op} {d : Nat} {ty : TypeId} {p : String} {af : Array Edge} {j t : Nat} {want : Bool} (hj : (ops[j]?).bind (·.dst) = some t) (hb : look sl t = .d (.val undef)) (hd : d < E.n)
  (h : AL E ops rest Q ((d, .d (.val undef)) :: sl) ob) : AL E ops (⟨some d, op, ty, p, af, some (j, want)⟩ :: rest) Q sl ob := by
 refine ⟨fun a w hi => ?_⟩
 obtain ⟨Pr, β, κ, hg⟩ := hi
 have hs := hg.slots t
 rw [hb] at hs
 have hwa : Region.wanted ⟨some d, op, ty, p, af, some (j, want)⟩ (yielded ops a.tmps) = false := yJ hj hs.val_inv
 unfold wpList
 rw [hwa, if_neg (by simp)]
 exact h.run _ _ ⟨Pr, β, κ, hg.put hd (.d _ _ (.val _))⟩
theorem wH {op : Op} {d : Nat} {ty : TypeId} {p : String} {af : Array Edge} {j t : Nat} {b : Bool} (hj : (ops[j]?).bind (·.dst) = some t) (hb : look sl t = .d (.val (.bool b))) (hw : b = false) (hd : d < E.n)
  (h : AL E ops rest Q ((d, .d (.val undef)) :: sl) ob) : AL E ops (⟨some d, op, ty, p, af, some (j, true)⟩ :: rest) Q sl ob := aMr hj hb (by simp [hw]) hd h
theorem wG {op : Op} {d : Nat} {ty : TypeId} {p : String} {af : Array Edge} {j t : Nat} {b : Bool} (hj : (ops[j]?).bind (·.dst) = some t) (hb : look sl t = .d (.val (.bool b))) (hw : b = true) (hd : d < E.n)
  (h : AL E ops rest Q ((d, .d (.val undef)) :: sl) ob) : AL E ops (⟨some d, op, ty, p, af, some (j, false)⟩ :: rest) Q sl ob := aMr hj hb (by simp [hw]) hd h
theorem aGh {op : Op} {d : Nat} {ty : TypeId} {p : String} {af : Array Edge} {j t : Nat} {b : Bool} (hj : (ops[j]?).bind (·.dst) = some t) (hb : look sl t = .d (.val (.bool b))) (hd : d < E.n)
  (h1 : b = true → AL E ops (⟨some d, op, ty, p, af, none⟩ :: rest) Q sl ob) (h2 : b = false → AL E ops rest Q ((d, .d (.val undef)) :: sl) ob) : AL E ops (⟨some d, op, ty, p, af, some (j, true)⟩ :: rest) Q sl ob := by
 cases b
 ·exact wH hj hb rfl hd (h2 rfl)
 ·exact aId hj hb rfl (h1 rfl)
theorem aGg {op : Op} {d : Nat} {ty : TypeId} {p : String} {af : Array Edge} {j t : Nat} {b : Bool} (hj : (ops[j]?).bind (·.dst) = some t) (hb : look sl t = .d (.val (.bool b))) (hd : d < E.n)
  (h1 : b = true → AL E ops rest Q ((d, .d (.val undef)) :: sl) ob) (h2 : b = false → AL E ops (⟨some d, op, ty, p, af, none⟩ :: rest) Q sl ob) : AL E ops (⟨some d, op, ty, p, af, some (j, false)⟩ :: rest) Q sl ob := by
 cases b
 ·exact aId hj hb rfl (h2 rfl)
 ·exact wG hj hb rfl hd (h1 rfl)
theorem oV (h : AQ E .normal Q sl ob) : AL E ops [] Q sl ob := ⟨fun a w hi => h.run a w hi⟩
end
section
variable {E : Entry} {sl : Slots} {ob : Objs} {a : Act} {w : World} {Pr : Prot} {β : Nat → Value} {κ : Nat → Nat}
theorem bO (h : Good E sl ob a w Pr β κ) (x : Operand) : RepV w Pr β κ (a.eval x) (ev sl x) := by
 cases x with
 | tmp t => exact h.slots t
 | const v => exact .d _ _ (.val v)
 | global g => exact .d _ _ (.val _)
 | func f => exact .d _ _ (.val _)
theorem bT (h : Good E sl ob a w Pr β κ) {x : Operand} {v : Value} (hx : ev sl x = .d (.val v)) : a.eval x = v := by
 have := bO h x
 rw [hx] at this
 exact this.val_inv
theorem iA (h : Good E sl ob a w Pr β κ) {x : Operand} {d : D} (hx : ev sl x = .d d) : RepD w Pr (a.eval x) d := by
 have := bO h x
 rw [hx] at this
 exact this.d_inv
variable {d : Option Nat} {t ty : TypeId} {p : String} {af : Array Edge} {g : Option (Nat × Bool)} {x y c : Operand}
inductive Cf : V → V → Prop where
 | d (x : D) : Cf (.d x) (.d x)
 | box (i o : Nat) : Cf (.box i o) (.box i o)
 | row (i k : Nat) : Cf (.row i k) (.row i k)
 | vp (i k o : Nat) : Cf (.vp i k o) (.vp i k o)
 | ep (l : List D) (o : Nat) : Cf (.ep l o) (.ep l o)
 | sl (i o n : Nat) : Cf (.sl i o n) (.sl i o n)
 | mp (i : Nat) : Cf (.mp i) (.mp i)
 | agg (l : List V) : Cf (.agg l) (.agg l)
 | clo (f : Fn) (l : List V) : Cf (.clo f l) (.clo f l)
 | mv (f : Fn) (l : List V) : Cf (.mv f l) (.mv f l)
 | tup (l : List V) : Cf (.tup l) (.tup l)
 | und : Cf .und .und
theorem Cf.eq {u v : V} (h : Cf u v) : u = v := by cases h <;> rfl
theorem lH {v : V} (hv : Cf (ev sl x) v) : Y E ⟨d, .move x, t, p, af, g⟩ sl ob v := fun a w Pr β κ h => ⟨a.eval x, hv.eq ▸ bO h x, fun w' _ => by simp [execOp]⟩
theorem hD {v : V} (hv : Cf (ev sl x) v) : Y E ⟨d, .assign x, t, p, af, g⟩ sl ob v := fun a w Pr β κ h => ⟨a.eval x, hv.eq ▸ bO h x, fun w' _ => by simp [execOp]⟩
theorem aRm {v : V} (hv : ev sl x = v) : Y E ⟨d, .assign x, t, p, af, g⟩ sl ob v := fun a w Pr β κ h => ⟨a.eval x, hv ▸ bO h x, fun w' _ => by simp [execOp]⟩
theorem dR {z : D} (h : ev sl x = .d z) : ev sl x = .d z := h
theorem hU {i o : Nat} (h : ev sl x = .box i o) : ev sl x = .box i o := h
theorem dM {i o : Nat} (h : ev sl x = .row i o) : ev sl x = .row i o := h
theorem aBm {l : List V} (h : ev sl x = .agg l) : ev sl x = .agg l := h
theorem tH {b : Bool} {v : V} (hc : ev sl c = .d (.val (.bool b))) (hb : b = true) (hv : ev sl x = v) : Y E ⟨d, .pick c x y, t, p, af, g⟩ sl ob v := fun a w Pr β κ h =>
 ⟨a.eval x, hv ▸ bO h x, fun w' _ => by have := bT h hc; simp [execOp, this, asBool, hb]⟩
theorem tG {b : Bool} {v : V} (hc : ev sl c = .d (.val (.bool b))) (hb : b = false) (hv : ev sl y = v) : Y E ⟨d, .pick c x y, t, p, af, g⟩ sl ob v := fun a w Pr β κ h =>
 ⟨a.eval y, hv ▸ bO h y, fun w' _ => by have := bT h hc; simp [execOp, this, asBool, hb]⟩
end
end
end Go.Proofs.YtaodngiigdbgeaaGreatDoor
