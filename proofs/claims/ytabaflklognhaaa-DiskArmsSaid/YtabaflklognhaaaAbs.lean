/-
  Abstract states: what the slots of a call hold, and what memory of its own it has; and that a world shows it. Conditions: none.
-/
import Derived.Test.YtabaflklognhaaaBase
import Derived.Test.YtabaflklognhaaaTypes
namespace Go.Proofs.Ytabaflklognhaaa
open Go.RowKit

/-- What a value shows. -/
inductive D where
  | val (v : Value)
  | list (s : Nat) (l : List (List D))
  | agg (l : List D)
  | tup (l : List D)
  | err
/-- What a slot holds: und: anything; ep: a pointer into cells that stay; box: a pointer into a box of the call's own; row: a slice of the call's own. -/
inductive V where
  | und
  | d (x : D)
  | ep (l : List D) (o : Nat)
  | box (i o : Nat)
  | sl (i o n : Nat)
  | mp (i : Nat)
  | row (i k : Nat)
  | agg (l : List V)
  | clo (f : Fn) (l : List V)
  | mv (f : Fn) (l : List V)
  | tup (l : List V)
inductive O where
  | box (T : TypeId) (l : List V)
  | row (e : TypeId) (s k : Nat) (l : List (List D))
  | map (T : TypeId) (clock : Nat) (l : List (Nat × Value × D))
  | vec (e : TypeId) (s k : Nat) (l : List (List D))
  | iter (v : V) (since : Nat) (seen : List Nat) (c0 : Nat)
abbrev D.int (n : Int) : D := .val (.int .i64 n)
abbrev D.bool (b : Bool) : D := .val (.bool b)
abbrev D.str (s : ByteArray) : D := .val (.string s)
abbrev Prot := Nat → Nat → Prop
abbrev Slots := List (Nat × V)
abbrev Objs := List (Nat × O)

def look : Slots → Nat → V
  | [], _ => .und
  | (j, v) :: r, i => bif Nat.beq i j then v else look r i
def find : Objs → Nat → Option O
  | [], _ => none
  | (j, v) :: r, i => bif Nat.beq i j then some v else find r i
theorem nbeq_ne {i j : Nat} (h : i ≠ j) : Nat.beq i j = false := by
  cases hb : Nat.beq i j
  · rfl
  · exact absurd (Nat.eq_of_beq_eq_true hb) h
theorem look_eq (i : Nat) (v : V) (r : Slots) : look ((i, v) :: r) i = v := by simp [look]
theorem look_ne {i j : Nat} (h : i ≠ j) (v : V) (r : Slots) : look ((j, v) :: r) i = look r i := by simp [look, nbeq_ne h]
theorem find_eq (i : Nat) (v : O) (r : Objs) : find ((i, v) :: r) i = some v := by simp [find]
theorem find_ne {i j : Nat} (h : i ≠ j) (v : O) (r : Objs) : find ((j, v) :: r) i = find r i := by simp [find, nbeq_ne h]

mutual
def V.has (i : Nat) : V → Bool
  | .box j _ => Nat.beq i j
  | .sl j _ _ => Nat.beq i j
  | .mp j => Nat.beq i j
  | .row j _ => Nat.beq i j
  | .agg l => V.hasL i l
  | .clo _ l => V.hasL i l
  | .mv _ l => V.hasL i l
  | .tup l => V.hasL i l
  | _ => false
def V.hasL (i : Nat) : List V → Bool
  | [] => false
  | v :: l => v.has i || V.hasL i l
end
def O.has (i : Nat) : O → Bool
  | .box _ l => V.hasL i l
  | .row .. => false
  | .map .. => false
  | .vec .. => false
  | .iter v _ _ _ => v.has i
/-- nothing speaks of the object i -/
def noneOf (i : Nat) (s : Slots) (o : Objs) : Bool := s.all (fun p => !p.2.has i) && o.all fun p => !p.2.has i

inductive RepD (w : World) (Pr : Prot) : Value → D → Prop where
  | val (v : Value) : RepD w Pr v (.val v)
  | nil (A : Option Addr) (c s : Nat) (hm : c ≤ maxLen) : RepD w Pr (.slice A 0 c) (.list s [])
  | list (b o n c s : Nat) (l : List (List D)) (u : Nat → Nat → Value) (hn : l.length = n) (hs : ∀ e ∈ l, e.length = s) (hc : n ≤ c) (hm : c ≤ maxLen)
      (hr : ∀ (i j : Nat) (e : List D) (d : D), l[i]? = some e → e[j]? = some d → w.cell? ⟨b, o + i * s + j, none⟩ = some (u i j) ∧ Pr b (o + i * s + j))
      (hd : ∀ (i j : Nat) (e : List D) (d : D), l[i]? = some e → e[j]? = some d → RepD w Pr (u i j) d) : RepD w Pr (.slice (some ⟨b, o, none⟩) n c) (.list s l)
  | agg (cs : List Value) (l : List D) (hl : cs.length = l.length) (hd : ∀ (i : Nat) (v : Value) (d : D), cs[i]? = some v → l[i]? = some d → RepD w Pr v d) : RepD w Pr (.agg cs.toArray) (.agg l)
  | tup (cs : List Value) (l : List D) (hl : cs.length = l.length) (hd : ∀ (i : Nat) (v : Value) (d : D), cs[i]? = some v → l[i]? = some d → RepD w Pr v d) : RepD w Pr (.tuple cs.toArray) (.tup l)
  | err (t : TypeId) (u : Value) : RepD w Pr (.iface t u) .err

inductive RepV (w : World) (Pr : Prot) (β : Nat → Value) (κ : Nat → Nat) : Value → V → Prop where
  | und (v : Value) : RepV w Pr β κ v .und
  | d (v : Value) (x : D) (h : RepD w Pr v x) : RepV w Pr β κ v (.d x)
  | ep (b p o : Nat) (l : List D) (u : Nat → Value) (hr : ∀ (j : Nat) (d : D), l[j]? = some d → w.cell? ⟨b, p + j, none⟩ = some (u j) ∧ Pr b (p + j) ∧ RepD w Pr (u j) d) :
      RepV w Pr β κ (.pointer (some ⟨b, p + o, none⟩)) (.ep l o)
  | box (i o g : Nat) (h : β i = .pointer (some ⟨g, 0, none⟩)) : RepV w Pr β κ (.pointer (some ⟨g, o, none⟩)) (.box i o)
  | sl (i o n c g : Nat) (h : β i = .pointer (some ⟨g, 0, none⟩)) (hc : n ≤ c) (hm : c ≤ maxLen) (hz : κ i ≠ 0 → o = 0 → c = κ i) : RepV w Pr β κ (.slice (some ⟨g, o, none⟩) n c) (.sl i o n)
  | mp (i g : Nat) (h : β i = .map (some g)) : RepV w Pr β κ (.map (some g)) (.mp i)
  | row (i k : Nat) (v : Value) (hs : ∃ A n c, v = .slice A n c) (hk : k ≤ κ i) (h : k = κ i → v = β i) : RepV w Pr β κ v (.row i k)
  | agg (cs : List Value) (l : List V) (hl : cs.length = l.length) (hd : ∀ (i : Nat) (v : Value) (d : V), cs[i]? = some v → l[i]? = some d → RepV w Pr β κ v d) : RepV w Pr β κ (.agg cs.toArray) (.agg l)
  | clo (f : Fn) (cs : List Value) (l : List V) (hl : cs.length = l.length) (hd : ∀ (i : Nat) (v : Value) (d : V), cs[i]? = some v → l[i]? = some d → RepV w Pr β κ v d) : RepV w Pr β κ (.func f #[] cs.toArray) (.clo f l)
  | mv (f : Fn) (cs : List Value) (l : List V) (hl : cs.length = l.length) (hd : ∀ (i : Nat) (v : Value) (d : V), cs[i]? = some v → l[i]? = some d → RepV w Pr β κ v d) : RepV w Pr β κ (.func f cs.toArray #[]) (.mv f l)
  | tup (cs : List Value) (l : List V) (hl : cs.length = l.length) (hd : ∀ (i : Nat) (v : Value) (d : V), cs[i]? = some v → l[i]? = some d → RepV w Pr β κ v d) : RepV w Pr β κ (.tuple cs.toArray) (.tup l)

def KeyOk (T : TypeId) (v : Value) : Prop := ∃ kt et lit, Try.prog.underlying T = some (.map kt et) ∧ keyOf Try.prog kt v = some lit
/-- what holds of the entries of every map: when they were born, their keys -/
structure MapOk (T : TypeId) (clock : Nat) (l : List (Nat × Value × D)) : Prop where
  nodup : (l.map (·.1)).Nodup
  lt : ∀ q ∈ l, q.1 < clock
  keys : (l.map (·.2.1)).Nodup
  ok : ∀ q ∈ l, KeyOk T q.2.1
def RepO (w : World) (Pr : Prot) (B : Nat) (β : Nat → Value) (κ : Nat → Nat) (i : Nat) : O → Prop
  | .box T l => ∃ (g : Nat) (cs : List Value), β i = .pointer (some ⟨g, 0, none⟩) ∧ B ≤ g ∧ w.heap[g]? = some (.cells cs.toArray T (0, 0)) ∧ cs.length = l.length ∧
      (∀ (j : Nat) (v : Value) (x : V), cs[j]? = some v → l[j]? = some x → RepV w Pr β κ v x) ∧ ∀ o, ¬ Pr g o
  | .row e s k l => κ i = k ∧ ∃ xs, w.ownsRow B e s (β i) l.length xs ∧ (∀ x ∈ l, x.length = s) ∧
      (∀ (p j : Nat) (x : List D) (d : D), l[p]? = some x → x[j]? = some d → ∃ u, xs[p * s + j]? = some u ∧ RepD w Pr u d) ∧
      ∀ g, (β i).ownBlock = some g → ∀ o, Pr g o ↔ o < l.length * s
  | .map T clock l => ∃ (g : Nat) (es : List MapEntry), β i = .map (some g) ∧ B ≤ g ∧ w.heap[g]? = some (.map es.toArray clock) ∧ (es.map (fun x => (x.born, x.key)) = l.map (fun q => (q.1, q.2.1)) ∧ MapOk T clock l) ∧
      (∀ (j : Nat) (x : MapEntry) (q : Nat × Value × D), es[j]? = some x → l[j]? = some q → RepD w Pr x.val q.2.2) ∧ ∀ o, ¬ Pr g o
  | .vec e s k l => κ i = k ∧ ∃ xs, w.ownsRow B e s (β i) l.length xs ∧ (∀ x ∈ l, x.length = s) ∧
      (∀ (p j : Nat) (x : List D) (d : D), l[p]? = some x → x[j]? = some d → ∃ u, xs[p * s + j]? = some u ∧ RepD w Pr u d) ∧
      ∀ g, (β i).ownBlock = some g → ∀ o, ¬ Pr g o
  | .iter v since seen c0 => ∃ g gm : Nat, β i = .pointer (some ⟨g, 0, none⟩) ∧ B ≤ g ∧ w.heap[g]? = some (.mapIter (some gm) since seen.toArray c0) ∧ RepV w Pr β κ (.map (some gm)) v ∧ ∀ o, ¬ Pr g o

def blk : Value → Option Nat
  | .pointer (some a) => some a.block
  | .slice (some a) _ _ => some a.block
  | .map r => r
  | _ => none

/-- Where a call began: its world, what is known to stay, how many slots it has; the objects that it was lent, and where they lay. -/
structure Entry where
  w : World
  pr : Prot
  n : Nat
  ob0 : Objs
  β0 : Nat → Value
  κ0 : Nat → Nat
/-- the blocks that were lent -/
def Lent (ob : Objs) (β : Nat → Value) (g : Nat) : Prop := ∃ i o, find ob i = some o ∧ blk (β i) = some g
theorem lent_nil {β : Nat → Value} {g : Nat} : ¬ Lent [] β g := fun ⟨_, _, h, _⟩ => by simp [find] at h
/-- Of what was there only what was lent may have turned. -/
structure Under (L : Nat → Prop) (w w' : World) : Prop where
  os : w'.os = w.os
  tape : w'.tape = w.tape
  output : w'.output = w.output
  size : w.heap.size ≤ w'.heap.size
  block : ∀ k, k < w.heap.size → ¬ L k → w'.heap[k]? = w.heap[k]?
theorem Under.refl (L : Nat → Prop) (w : World) : Under L w w := ⟨rfl, rfl, rfl, Nat.le_refl _, fun _ _ _ => rfl⟩
theorem Under.trans {L : Nat → Prop} {a b c : World} (h : Under L a b) (k : Under L b c) : Under L a c :=
  ⟨k.os.trans h.os, k.tape.trans h.tape, k.output.trans h.output, Nat.le_trans h.size k.size, fun i hi hn => (k.block i (Nat.lt_of_lt_of_le hi h.size) hn).trans (h.block i hi hn)⟩
/-- what is new may turn -/
theorem Under.then {L M : Nat → Prop} {a b c : World} (h : Under L a b) (k : Under M b c) (hM : ∀ g, M g → L g ∨ a.heap.size ≤ g) : Under L a c :=
  ⟨k.os.trans h.os, k.tape.trans h.tape, k.output.trans h.output, Nat.le_trans h.size k.size, fun i hi hn => (k.block i (Nat.lt_of_lt_of_le hi h.size) (fun hm => (hM i hm).elim hn (fun h1 => by omega))).trans (h.block i hi hn)⟩
theorem Under.of_below (L : Nat → Prop) {w w' : World} (h : Below w.heap.size w w') : Under L w w' := ⟨h.os, h.tape, h.output, h.size, fun k hk _ => h.block k hk⟩
theorem Under.below {w w' : World} {β : Nat → Value} (h : Under (Lent [] β) w w') : Below w.heap.size w w' := ⟨h.os, h.tape, h.output, h.size, fun k hk => h.block k hk lent_nil⟩
/-- w' has all that stays in w. -/
def Stays (Pr : Prot) (w w' : World) : Prop := ∀ b o, Pr b o → w'.cell? ⟨b, o, none⟩ = w.cell? ⟨b, o, none⟩
structure Good (E : Entry) (sl : Slots) (ob : Objs) (a : Act) (w : World) (Pr : Prot) (β : Nat → Value) (κ : Nat → Nat) : Prop where
  below : Under (Lent E.ob0 E.β0) E.w w
  st0 : Stays E.pr E.w w
  pr0 : ∀ b o, E.pr b o → Pr b o
  prn : ∀ b o, Pr b o → E.pr b o ∨ E.w.heap.size ≤ b ∨ Lent E.ob0 E.β0 b
  prl : ∀ b o, Pr b o → b < w.heap.size
  size : a.tmps.size = E.n
  defers : a.defers = []
  slots : ∀ i, RepV w Pr β κ (a.tmps.getD i undef) (look sl i)
  objs : ∀ i o, find ob i = some o → RepO w Pr 0 β κ i o
  apart : ∀ i j oi oj g, find ob i = some oi → find ob j = some oj → blk (β i) = some g → blk (β j) = some g → i = j
  own : ∀ i o g, find ob i = some o → blk (β i) = some g → Lent E.ob0 E.β0 g ∨ E.w.heap.size ≤ g
  keeps : ∀ i o, find E.ob0 i = some o → (β i = E.β0 i ∧ κ i = E.κ0 i) ∨ (E.κ0 i < κ i ∧ ∃ A n c, E.β0 i = .slice A n c)
  fresh : ∀ i o, find E.ob0 i = some o → E.n ≤ i
def Inv (E : Entry) (sl : Slots) (ob : Objs) (a : Act) (w : World) : Prop := ∃ Pr β κ, Good E sl ob a w Pr β κ

section
variable {w w' : World} {Pr Pr' : Prot} {β β' : Nat → Value} {κ κ' : Nat → Nat}
theorem RepD.keep {v : Value} {d : D} (h : RepD w Pr v d) (hs : Stays Pr w w') (hp : ∀ b o, Pr b o → Pr' b o) : RepD w' Pr' v d := by
  induction h with
  | val v => exact .val v
  | nil A c s hm => exact .nil A c s hm
  | list b o n c s l u hn hss hc hm hr hd ih =>
    exact .list b o n c s l u hn hss hc hm (fun i j e d h1 h2 => ⟨(hs _ _ (hr i j e d h1 h2).2).trans (hr i j e d h1 h2).1, hp _ _ (hr i j e d h1 h2).2⟩) ih
  | agg cs l hl hd ih => exact .agg cs l hl ih
  | tup cs l hl hd ih => exact .tup cs l hl ih
  | err t u => exact .err t u
theorem RepV.keep {v : Value} {x : V} (h : RepV w Pr β κ v x) (hs : Stays Pr w w') (hp : ∀ b o, Pr b o → Pr' b o) : RepV w' Pr' β κ v x := by
  induction h with
  | und v => exact .und v
  | d v x h => exact .d v x (h.keep hs hp)
  | ep b p o l u hr => exact .ep b p o l u (fun j d hj => ⟨(hs _ _ (hr j d hj).2.1).trans (hr j d hj).1, hp _ _ (hr j d hj).2.1, (hr j d hj).2.2.keep hs hp⟩)
  | box i o g h => exact .box i o g h
  | sl i o n c g h hc hm hz => exact .sl i o n c g h hc hm hz
  | mp i g h => exact .mp i g h
  | row i k v hs hk h => exact .row i k v hs hk h
  | agg cs l hl hd ih => exact .agg cs l hl ih
  | clo f cs l hl hd ih => exact .clo f cs l hl ih
  | mv f cs l hl hd ih => exact .mv f cs l hl ih
  | tup cs l hl hd ih => exact .tup cs l hl ih
theorem RepV.d_inv {v : Value} {x : D} (h : RepV w Pr β κ v (.d x)) : RepD w Pr v x := by
  cases h with
  | d _ _ h => exact h
theorem RepV.val_inv {v u : Value} (h : RepV w Pr β κ v (.d (.val u))) : v = u := by
  cases h.d_inv
  rfl
theorem RepV.row_inv {v : Value} {i k : Nat} (h : RepV w Pr β κ v (.row i k)) (hk : k = κ i) : v = β i := by
  cases h with
  | row _ _ _ _ _ hv => exact hv hk
theorem hasL_mem {i : Nat} {l : List V} {j : Nat} {x : V} (h : V.hasL i l = false) (hx : l[j]? = some x) : x.has i = false := by
  induction l generalizing j with
  | nil => simp at hx
  | cons y l ih =>
    simp only [V.hasL, Bool.or_eq_false_iff] at h
    cases j with
    | zero => simp at hx; exact hx ▸ h.1
    | succ j => exact ih h.2 (by simpa using hx)
/-- The object i is another one now: what does not speak of it holds as it did. -/
theorem RepV.other {v : Value} {x : V} {i : Nat} (h : RepV w Pr β κ v x) (hx : x.has i = false) (hβ : ∀ j, j ≠ i → β' j = β j) (hκ : ∀ j, j ≠ i → κ' j = κ j) : RepV w Pr β' κ' v x := by
  induction h with
  | und v => exact .und v
  | d v x h => exact .d v x h
  | ep b p o l u hr => exact .ep b p o l u hr
  | box j o g h =>
    simp only [V.has] at hx
    exact .box j o g ((hβ j (by rintro rfl; simp at hx)).trans h)
  | sl j o n c g h hc hm hz =>
    simp only [V.has] at hx
    have hne : j ≠ i := by rintro rfl; simp at hx
    exact .sl j o n c g ((hβ j hne).trans h) hc hm (by rw [hκ j hne]; exact hz)
  | mp j g h =>
    simp only [V.has] at hx
    exact .mp j g ((hβ j (by rintro rfl; simp at hx)).trans h)
  | row j k v hs hk h =>
    simp only [V.has] at hx
    have hne : j ≠ i := by rintro rfl; simp at hx
    exact .row j k v hs (by rw [hκ j hne]; exact hk) (fun e => (h (by rw [← hκ j hne]; exact e)).trans (hβ j hne).symm)
  | agg cs l hl hd ih =>
    simp only [V.has] at hx
    exact .agg cs l hl (fun j v d h1 h2 => ih j v d h1 h2 (hasL_mem hx h2))
  | clo f cs l hl hd ih =>
    simp only [V.has] at hx
    exact .clo f cs l hl (fun j v d h1 h2 => ih j v d h1 h2 (hasL_mem hx h2))
  | mv f cs l hl hd ih =>
    simp only [V.has] at hx
    exact .mv f cs l hl (fun j v d h1 h2 => ih j v d h1 h2 (hasL_mem hx h2))
  | tup cs l hl hd ih =>
    simp only [V.has] at hx
    exact .tup cs l hl (fun j v d h1 h2 => ih j v d h1 h2 (hasL_mem hx h2))
/-- Objects have turned: what speaks of them holds as far as it is of now. -/
theorem RepV.chg {v : Value} {x : V} (h : RepV w Pr β κ v x) (hx : ∀ i, x.has i = true → (β' i = β i ∧ κ' i = κ i) ∨ (κ i < κ' i ∧ ∃ A n c, β i = .slice A n c)) : RepV w Pr β' κ' v x := by
  have mem : ∀ {l : List V} {j : Nat} {x : V} {i : Nat}, l[j]? = some x → x.has i = true → V.hasL i l = true := by
    intro l j x i h1 h2
    cases h3 : V.hasL i l with
    | true => rfl
    | false => rw [hasL_mem h3 h1] at h2; cases h2
  induction h with
  | und v => exact .und v
  | d v x h => exact .d v x h
  | ep b p o l u hr => exact .ep b p o l u hr
  | box i o g h =>
    rcases hx i (by simp [V.has]) with ⟨h1, _⟩ | ⟨_, A, n, c, h1⟩
    · exact .box i o g (h1.trans h)
    · rw [h] at h1; cases h1
  | sl i o n c g h hc hm hz =>
    rcases hx i (by simp [V.has]) with ⟨h1, h2⟩ | ⟨_, A, n, c, h1⟩
    · exact .sl i o _ _ g (h1.trans h) hc hm (by rw [h2]; exact hz)
    · rw [h] at h1; cases h1
  | mp i g h =>
    rcases hx i (by simp [V.has]) with ⟨h1, _⟩ | ⟨_, A, n, c, h1⟩
    · exact .mp i g (h1.trans h)
    · rw [h] at h1; cases h1
  | row i k v hs hk h =>
    rcases hx i (by simp [V.has]) with ⟨h1, h2⟩ | ⟨h1, _⟩
    · exact .row i k v hs (by omega) (fun e => (h (by omega)).trans h1.symm)
    · exact .row i k v hs (by omega) (fun e => by omega)
  | agg cs l hl hd ih => exact .agg cs l hl (fun j v d h1 h2 => ih j v d h1 h2 (fun i hi => hx i (by simp only [V.has]; exact mem h2 hi)))
  | clo f cs l hl hd ih => exact .clo f cs l hl (fun j v d h1 h2 => ih j v d h1 h2 (fun i hi => hx i (by simp only [V.has]; exact mem h2 hi)))
  | mv f cs l hl hd ih => exact .mv f cs l hl (fun j v d h1 h2 => ih j v d h1 h2 (fun i hi => hx i (by simp only [V.has]; exact mem h2 hi)))
  | tup cs l hl hd ih => exact .tup cs l hl (fun j v d h1 h2 => ih j v d h1 h2 (fun i hi => hx i (by simp only [V.has]; exact mem h2 hi)))
/-- A row has a new version: what speaks of elder ones holds no more of it. -/
theorem RepV.newer {v : Value} {x : V} {i : Nat} (h : RepV w Pr β κ v x) (hβ : ∀ j, j ≠ i → β' j = β j) (hκ : ∀ j, j ≠ i → κ' j = κ j) (hi : κ i < κ' i) (hb : ∃ A n c, β i = .slice A n c) : RepV w Pr β' κ' v x := by
  induction h with
  | und v => exact .und v
  | d v x h => exact .d v x h
  | ep b p o l u hr => exact .ep b p o l u hr
  | box j o g h => exact .box j o g ((hβ j (by rintro rfl; obtain ⟨_, _, _, e⟩ := hb; rw [h] at e; cases e)).trans h)
  | sl j o n c g h hc hm hz =>
    have hne : j ≠ i := by rintro rfl; obtain ⟨_, _, _, e⟩ := hb; rw [h] at e; cases e
    exact .sl j o n c g ((hβ j hne).trans h) hc hm (by rw [hκ j hne]; exact hz)
  | mp j g h => exact .mp j g ((hβ j (by rintro rfl; obtain ⟨_, _, _, e⟩ := hb; rw [h] at e; cases e)).trans h)
  | row j k v hs hk h =>
    by_cases hj : j = i
    · subst hj
      exact .row j k v hs (by omega) (fun e => by omega)
    · exact .row j k v hs (by rw [hκ j hj]; exact hk) (fun e => (h (by rw [← hκ j hj]; exact e)).trans (hβ j hj).symm)
  | agg cs l hl hd ih => exact .agg cs l hl ih
  | clo f cs l hl hd ih => exact .clo f cs l hl ih
  | mv f cs l hl hd ih => exact .mv f cs l hl ih
  | tup cs l hl hd ih => exact .tup cs l hl ih
theorem ownsRow_same {B n s : Nat} {e : TypeId} {v : Value} {xs : List Value} (h : w.ownsRow B e s v n xs) (hk : ∀ g, v.ownBlock = some g → w'.heap[g]? = w.heap[g]?) : w'.ownsRow B e s v n xs := by
  refine ⟨h.1, ?_⟩
  rcases h.2 with h0 | ⟨g, cap, cur, rfl, k1, k2, k3⟩
  · exact .inl h0
  · exact .inr ⟨g, cap, cur, rfl, k1, (hk g rfl).trans k2, k3⟩
theorem RepO.blkLt {B i : Nat} {o : O} (h : RepO w Pr B β κ i o) : ∀ g, blk (β i) = some g → B ≤ g ∧ g < w.heap.size := by
  intro g hg
  cases o with
  | box T l =>
    obtain ⟨g', cs, hb, hB, hh, _⟩ := h
    rw [hb] at hg
    simp only [blk, Option.some.injEq] at hg
    subst hg
    exact ⟨hB, (Array.getElem?_eq_some_iff.1 hh).1⟩
  | row e s k l =>
    obtain ⟨_, xs, hown, _⟩ := h
    refine hown.lt g ?_
    rcases hown.2 with ⟨h0, _⟩ | ⟨g', cap, cur, h0, _⟩
    · rw [h0] at hg; simp [blk] at hg
    · rw [h0] at hg ⊢
      simpa [blk, Value.ownBlock] using hg
  | vec e s k l =>
    obtain ⟨_, xs, hown, _⟩ := h
    refine hown.lt g ?_
    rcases hown.2 with ⟨h0, _⟩ | ⟨g', cap, cur, h0, _⟩
    · rw [h0] at hg; simp [blk] at hg
    · rw [h0] at hg ⊢
      simpa [blk, Value.ownBlock] using hg
  | map T c l =>
    obtain ⟨g', es, hb, hB, hh, _⟩ := h
    rw [hb] at hg
    simp only [blk, Option.some.injEq] at hg
    subst hg
    exact ⟨hB, (Array.getElem?_eq_some_iff.1 hh).1⟩
  | iter v s n c =>
    obtain ⟨g', gm, hb, hB, hh, _⟩ := h
    rw [hb] at hg
    simp only [blk, Option.some.injEq] at hg
    subst hg
    exact ⟨hB, (Array.getElem?_eq_some_iff.1 hh).1⟩
/-- What an object's block holds is as it was, and so is what stays. -/
theorem RepO.keep2 {B i : Nat} {o : O} (h : RepO w Pr B β κ i o) (hs : Stays Pr w w') (hp : ∀ b o, Pr b o → Pr' b o) (hn : ∀ g, blk (β i) = some g → ∀ o, Pr' g o → Pr g o)
    (hk : ∀ g, blk (β i) = some g → w'.heap[g]? = w.heap[g]?) : RepO w' Pr' B β κ i o := by
  cases o with
  | box T l =>
    obtain ⟨g, cs, hb, hB, hh, hl, hv, hno⟩ := h
    exact ⟨g, cs, hb, hB, (hk g (by rw [hb]; rfl)).trans hh, hl, fun j v x h1 h2 => (hv j v x h1 h2).keep hs hp, fun o ho => hno o (hn g (by rw [hb]; rfl) o ho)⟩
  | row e s k l =>
    obtain ⟨h1, xs, hown, hls, hd, hpr⟩ := h
    have hb : ∀ g, (β i).ownBlock = some g → blk (β i) = some g := by
      intro g hg
      cases hv : β i with
      | slice A n c => rw [hv] at hg; cases A with | none => simp [Value.ownBlock] at hg | some a => simpa [Value.ownBlock, blk] using hg
      | _ => rw [hv] at hg; simp [Value.ownBlock] at hg
    refine ⟨h1, xs, ownsRow_same hown (fun g hg => hk g (hb g hg)), hls, fun p j x d h1 h2 => ?_, fun g hg o => ⟨fun ho => (hpr g hg o).1 (hn g (hb g hg) o ho), fun ho => hp _ _ ((hpr g hg o).2 ho)⟩⟩
    obtain ⟨u, hu, hr⟩ := hd p j x d h1 h2
    exact ⟨u, hu, hr.keep hs hp⟩
  | vec e s k l =>
    obtain ⟨h1, xs, hown, hls, hd, hpr⟩ := h
    have hb : ∀ g, (β i).ownBlock = some g → blk (β i) = some g := by
      intro g hg
      cases hv : β i with
      | slice A n c => rw [hv] at hg; cases A with | none => simp [Value.ownBlock] at hg | some a => simpa [Value.ownBlock, blk] using hg
      | _ => rw [hv] at hg; simp [Value.ownBlock] at hg
    refine ⟨h1, xs, ownsRow_same hown (fun g hg => hk g (hb g hg)), hls, fun p j x d h1 h2 => ?_, fun g hg o ho => hpr g hg o (hn g (hb g hg) o ho)⟩
    obtain ⟨u, hu, hr⟩ := hd p j x d h1 h2
    exact ⟨u, hu, hr.keep hs hp⟩
  | map T c l =>
    obtain ⟨g, es, hb, hB, hh, hl, hv, hno⟩ := h
    exact ⟨g, es, hb, hB, (hk g (by rw [hb]; rfl)).trans hh, hl, fun j x q h1 h2 => (hv j x q h1 h2).keep hs hp, fun o ho => hno o (hn g (by rw [hb]; rfl) o ho)⟩
  | iter v s n c =>
    obtain ⟨g, gm, hb, hB, hh, hv, hno⟩ := h
    exact ⟨g, gm, hb, hB, (hk g (by rw [hb]; rfl)).trans hh, hv.keep hs hp, fun o ho => hno o (hn g (by rw [hb]; rfl) o ho)⟩
theorem RepO.keep {B i : Nat} {o : O} (h : RepO w Pr B β κ i o) (hs : Stays Pr w w') (hp : ∀ b o, Pr b o → Pr' b o) (hn : ∀ b o, Pr' b o → Pr b o ∨ w.heap.size ≤ b)
    (hk : ∀ g, blk (β i) = some g → w'.heap[g]? = w.heap[g]?) : RepO w' Pr' B β κ i o := by
  have hlt := h.blkLt
  exact h.keep2 hs hp (fun g hg o ho => (hn g o ho).elim id fun h1 => by have := (hlt g hg).2; omega) hk
end

section
variable {E : Entry} {sl sl' : Slots} {ob ob' : Objs} {a : Act} {w w' : World} {Pr Pr' : Prot} {β : Nat → Value} {κ : Nat → Nat}
theorem stays_below (h : Good E sl ob a w Pr β κ) (hx : Below w.heap.size w w') : Stays Pr w w' := fun b _ hp => hx.cell (p := ⟨b, _, none⟩) (h.prl b _ hp)
/-- Nothing that was there has turned; what is new may stay. -/
theorem Good.grow (h : Good E sl ob a w Pr β κ) (hx : Below w.heap.size w w') (hp : ∀ b o, Pr b o → Pr' b o) (hn : ∀ b o, Pr' b o → Pr b o ∨ (w.heap.size ≤ b ∧ b < w'.heap.size)) : Good E sl ob a w' Pr' β κ := by
  have hs := stays_below h hx
  have hE := h.below.size
  refine ⟨h.below.trans (.of_below _ hx), fun b o ho => (hs b o (h.pr0 b o ho)).trans (h.st0 b o ho), fun b o ho => hp b o (h.pr0 b o ho), fun b o ho => ?_, fun b o ho => ?_, h.size, h.defers, fun i => (h.slots i).keep hs hp, fun i o ho => ?_, h.apart, h.own, h.keeps, h.fresh⟩
  · rcases hn b o ho with h1 | h1
    · exact h.prn b o h1
    · exact .inr (.inl (by omega))
  · rcases hn b o ho with h1 | h1
    · have := h.prl b o h1
      have := hx.size
      omega
    · exact h1.2
  · exact (h.objs i o ho).keep hs hp (fun b o ho => (hn b o ho).imp id (·.1)) (fun g hg => hx.block g ((h.objs i o ho).blkLt g hg).2)
theorem Act.getD_put (a : Act) (d i : Nat) (v : Value) (hd : d < a.tmps.size) : (a.put (some d) v).tmps.getD i undef = if i = d then v else a.tmps.getD i undef := by
  simp only [Act.put, Array.getD_eq_getD_getElem?, Array.getElem?_setIfInBounds]
  by_cases h : i = d
  · subst h; simp [hd]
  · simp [h, Ne.symm h]
/-- A slot is set. -/
theorem Good.put (h : Good E sl ob a w Pr β κ) {d : Nat} (hd : d < E.n) {v : Value} {x : V} (hv : RepV w Pr β κ v x) : Good E ((d, x) :: sl) ob (a.put (some d) v) w Pr β κ := by
  refine ⟨h.below, h.st0, h.pr0, h.prn, h.prl, by simp [Act.put, h.size], by simp [Act.put, h.defers], fun i => ?_, h.objs, h.apart, h.own, h.keeps, h.fresh⟩
  rw [Act.getD_put a d i v (by rw [h.size]; exact hd)]
  by_cases hi : i = d
  · subst hi
    rw [if_pos rfl, look_eq]
    exact hv
  · rw [if_neg hi, look_ne hi]
    exact h.slots i
theorem Good.put' (h : Good E sl ob a w Pr β κ) {d : Option Nat} {v : Value} (hd : d = none) : Good E sl ob (a.put d v) w Pr β κ := by
  subst hd
  exact h
/-- Less is said. -/
theorem Good.less (h : Good E sl ob a w Pr β κ) (hs : ∀ p ∈ sl', look sl p.1 = p.2) (ho : ∀ p ∈ ob', find ob p.1 = some p.2) : Good E sl' ob' a w Pr β κ := by
  have hl : ∀ (l : Slots), (∀ p ∈ l, look sl p.1 = p.2) → ∀ i, look l i = .und ∨ look l i = look sl i := by
    intro l hl i
    induction l with
    | nil => exact .inl rfl
    | cons p l ih =>
      obtain ⟨j, v⟩ := p
      by_cases hi : i = j
      · subst hi
        rw [look_eq]
        exact .inr (hl (i, v) (by simp)).symm
      · rw [look_ne hi]
        exact ih (fun p hp => hl p (by simp [hp]))
  have hf : ∀ (l : Objs), (∀ p ∈ l, find ob p.1 = some p.2) → ∀ i x, find l i = some x → find ob i = some x := by
    intro l hl i x hx
    induction l with
    | nil => simp [find] at hx
    | cons p l ih =>
      obtain ⟨j, v⟩ := p
      by_cases hi : i = j
      · subst hi
        rw [find_eq] at hx
        cases hx
        exact hl (i, _) (by simp)
      · rw [find_ne hi] at hx
        exact ih (fun p hp => hl p (by simp [hp])) hx
  refine ⟨h.below, h.st0, h.pr0, h.prn, h.prl, h.size, h.defers, fun i => ?_, fun i o hio => h.objs i o (hf ob' ho i o hio), fun i j oi oj g h1 h2 => h.apart i j oi oj g (hf ob' ho i oi h1) (hf ob' ho j oj h2), fun i o g h1 => h.own i o g (hf ob' ho i o h1), h.keeps, h.fresh⟩
  rcases hl sl' hs i with h1 | h1
  · rw [h1]; exact .und _
  · rw [h1]; exact h.slots i
theorem Inv.less (h : Inv E sl ob a w) (hs : ∀ p ∈ sl', look sl p.1 = p.2) (ho : ∀ p ∈ ob', find ob p.1 = some p.2) : Inv E sl' ob' a w := by
  obtain ⟨Pr, β, κ, h⟩ := h
  exact ⟨Pr, β, κ, h.less hs ho⟩
end
end Go.Proofs.Ytabaflklognhaaa
