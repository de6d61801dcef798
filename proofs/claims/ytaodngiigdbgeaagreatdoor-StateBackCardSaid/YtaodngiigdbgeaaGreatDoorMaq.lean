/-
  Conditions: none.
-/
import Derived.Test.YtaodngiigdbgeaaGreatDoorMaa
import Derived.Test.YtaodngiigdbgeaaGreatDoorMal
import Derived.Test.YtaodngiigdbgeaaGreatDoorMap
set_option maxHeartbeats 16000000
set_option maxRecDepth 20000
set_option linter.unusedSimpArgs false
set_option linter.unusedVariables false
namespace Go.Proofs.YtaodngiigdbgeaaGreatDoor
section
inductive Ex where
 | mk (op n unit : Int) (s : ByteArray) (args : List Ex)
def Ex.op : Ex → Int | .mk op _ _ _ _ => op
def Ex.num : Ex → Int | .mk _ n _ _ _ => n
def Ex.unit : Ex → Int | .mk _ _ u _ _ => u
def Ex.str : Ex → ByteArray | .mk _ _ _ s _ => s
def Ex.args : Ex → List Ex | .mk _ _ _ _ a => a
inductive Rd (α : Type) where
 | ok (x : α) (r : List Tok)
 | bad (pos e : Int)
def Rd.then {α β : Type} (x : Rd α) (f : α → List Tok → Rd β) : Rd β := match x with
 | .ok a r => f a r
 | .bad p e => .bad p e
section
variable (prim : (Nat → List Tok → Rd Ex) → List Tok → Rd Ex) (iff : (Nat → List Tok → Rd Ex) → List Tok → Option (Rd Ex)) (nott : (Nat → List Tok → Rd Ex) → List Tok → Option (Rd Ex)) (sym : List Tok → Option (Int × Nat))
def two (op : Int) (a b : Ex) : Ex := .mk op 0 0 ⟨#[]⟩ [a, b]
def prfx (rec : Nat → List Tok → Rd Ex) (form : Nat) (l : List Tok) : Rd (Ex × Nat) :=
 match (if form = 0 then iff rec l else none) with
 | some r => r.then fun e t => .ok (e, 0) t
 | none => match (if form ≤ 3 then nott rec l else none) with
  | some r => r.then fun e t => .ok (e, 3) t
  | none => (prim rec l).then fun e t => .ok (e, 7) t
def ploop (rec : Nat → List Tok → Rd Ex) (form : Nat) : Nat → Nat → Ex → List Tok → Rd Ex
 | 0, _, e, l => .ok e l
 | k + 1, own, e, l => match sym l with
  | none => .ok e l
  | some (op, g) =>
   if g < form ∨ own < g ∨ (own = 4 ∧ g = 4) then .ok e l
   else (rec (g + 1) (l.drop 1)).then fun x t => ploop rec form k g (two op e x) t
def pexp : Nat → Nat → List Tok → Rd Ex
 | 0, _, l => .bad 0 l.length
 | n + 1, form, l => (prfx prim iff nott (pexp n) form l).then fun x t => ploop sym (pexp n) form (t.length + 1) x.2 x.1 t
def chain (rec : Nat → List Tok → Rd Ex) (form : Nat) : Nat → Ex → List Tok → Rd Ex
 | 0, e, l => .ok e l
 | k + 1, e, l => match sym l with
  | none => .ok e l
  | some (op, g) =>
   if g ≠ form then .ok e l
   else (rec (form + 1) (l.drop 1)).then fun x t => if form = 4 then .ok (two op e x) t else chain rec form k (two op e x) t
def down (rec : Nat → List Tok → Rd Ex) (k form : Nat) : Nat → Ex → List Tok → Rd Ex
 | 0, e, l => .ok e l
 | own + 1, e, l => if own < form then .ok e l else if own = 3 then down rec k form own e l else (chain sym rec own k e l).then fun x t => down rec k form own x t
end
theorem bJ {α β : Type} (a : α) (r : List Tok) (f : α → List Tok → Rd β) : (Rd.ok a r).then f = f a r := rfl
theorem mC {α β : Type} {x : Rd α} {f g : α → List Tok → Rd β} (h : ∀ a r, x = .ok a r → f a r = g a r) : x.then f = x.then g := by
 cases x with
 | ok a r => exact h a r rfl
 | bad p e => rfl
theorem qK {α β γ : Type} (x : Rd α) (f : α → List Tok → Rd β) (g : β → List Tok → Rd γ) : (x.then f).then g = x.then fun a r => (f a r).then g := by
 cases x <;> rfl
section
variable {rec : Nat → List Tok → Rd Ex} {sym : List Tok → Option (Int × Nat)}
structure Parts (rec : Nat → List Tok → Rd Ex) (sym : List Tok → Option (Int × Nat)) : Prop where
 less : ∀ f l x t, rec f l = .ok x t → t.length ≤ l.length
 some : ∀ l op g, sym l = some (op, g) → 0 < l.length ∧ (g = 1 ∨ g = 2 ∨ g = 4 ∨ g = 5 ∨ g = 6)
theorem aGm (h : Parts rec sym) (form : Nat) : ∀ (n k k' : Nat) (e : Ex) (l : List Tok), l.length ≤ n → l.length < k → l.length < k' → chain sym rec form k e l = chain sym rec form k' e l := by
 intro n
 induction n with
 | zero =>
  intro k k' e l hn hk hk'
  obtain ⟨k, rfl⟩ : ∃ j, k = j + 1 := ⟨k - 1, by omega⟩
  obtain ⟨k', rfl⟩ : ∃ j, k' = j + 1 := ⟨k' - 1, by omega⟩
  simp only [chain]
  cases hs : sym l with
  | none => rfl
  | some q =>
   obtain ⟨op, g⟩ := q
   have := (h.some l op g hs).1
   omega
 | succ n ih =>
  intro k k' e l hn hk hk'
  obtain ⟨k, rfl⟩ : ∃ j, k = j + 1 := ⟨k - 1, by omega⟩
  obtain ⟨k', rfl⟩ : ∃ j, k' = j + 1 := ⟨k' - 1, by omega⟩
  simp only [chain]
  cases hs : sym l with
  | none => rfl
  | some q =>
   obtain ⟨op, g⟩ := q
   have hl := (h.some l op g hs).1
   simp only
   split
   ·rfl
   ·refine mC fun x t ht => ?_
    have := h.less _ _ _ _ ht
    rw [List.length_drop] at this
    split
    ·rfl
    ·exact ih k k' _ t zb zb zb
theorem zK {form k : Nat} {e : Ex} {l : List Tok} (h : ∀ op g, sym l = some (op, g) → g ≠ form) : chain sym rec form k e l = .ok e l := by
 cases k with
 | zero => rfl
 | succ k =>
  simp only [chain]
  cases hs : sym l with
  | none => rfl
  | some q =>
   obtain ⟨op, g⟩ := q
   simp only
   rw [if_pos (h op g hs)]
theorem rV {k form : Nat} {e : Ex} {l : List Tok} : ∀ own, (∀ op g, sym l = some (op, g) → g < form ∨ own ≤ g ∨ g = 3) → down sym rec k form own e l = .ok e l
 | 0, _ => rfl
 | own + 1, h => by
  simp only [down]
  have ih : down sym rec k form own e l = .ok e l := rV own fun op g hs => by have := h op g hs; omega
  split
  ·rfl
  ·split
   ·exact ih
   ·rename_i h1 h2
    rw [zK (fun op g hs => by have := h op g hs; omega), bJ]
    exact ih
theorem aIk {k form g op} {e : Ex} {l : List Tok} (hs : sym l = some (op, g)) (hf : form ≤ g) : ∀ own, g < own → down sym rec k form own e l = down sym rec k form (g + 1) e l
 | 0, h => by omega
 | own + 1, h => by
  by_cases hg : g = own
  ·rw [hg]
  ·have ih : down sym rec k form own e l = down sym rec k form (g + 1) e l := aIk hs hf own zb
   conv => lhs; simp only [down]
   rw [if_neg zb]
   split
   ·exact ih
   ·rw [zK (fun op' g' hs' => by rw [hs] at hs'; cases hs'; exact hg), bJ]
    exact ih
def start (own : Nat) : Nat := if own = 7 then 7 else if own = 4 then 4 else if own = 3 then 3 else if own = 0 then 0 else own + 1
theorem xS (h : Parts rec sym) (form k' : Nat) : ∀ (n k own : Nat) (e : Ex) (l : List Tok), l.length ≤ n → l.length < k → l.length < k' → (own ≤ 7) → ploop sym rec form k own e l = down sym rec k' form (start own) e l := by
 intro n
 induction n with
 | zero =>
  intro k own e l hn hk hk' ho
  obtain ⟨k, rfl⟩ : ∃ j, k = j + 1 := ⟨k - 1, by omega⟩
  have h0 : sym l = none := by
   cases hs : sym l with
   | none => rfl
   | some q =>
    obtain ⟨op, g⟩ := q
    have := (h.some l op g hs).1
    omega
  rw [rV _ (fun op g hs => by rw [h0] at hs; cases hs)]
  simp only [ploop, h0]
 | succ n ih =>
  intro k own e l hn hk hk' ho
  obtain ⟨k, rfl⟩ : ∃ j, k = j + 1 := ⟨k - 1, by omega⟩
  cases hs : sym l with
  | none =>
   rw [rV _ (fun op g h1 => by rw [hs] at h1; cases h1)]
   simp only [ploop, hs]
  | some q =>
   obtain ⟨op, g⟩ := q
   obtain ⟨hl, hg⟩ := h.some l op g hs
   simp only [ploop, hs]
   by_cases hc : g < form ∨ own < g ∨ (own = 4 ∧ g = 4)
   ·rw [if_pos hc, rV]
    intro op' g' hs'
    rw [hs] at hs'
    cases hs'
    have : start own ≤ g ∨ g < form := by unfold start; split <;> (try split) <;> (try split) <;> (try split) <;> omega
    omega
   ·rw [if_neg hc, aIk hs zb (start own) (by unfold start; split <;> (try split) <;> (try split) <;> (try split) <;> omega)]
    obtain ⟨k'', rfl⟩ : ∃ j, k' = j + 1 := ⟨k' - 1, by omega⟩
    conv => rhs; simp only [down]
    rw [if_neg zb, if_neg zb]
    simp only [chain, hs]
    rw [if_neg (by simp), qK]
    refine mC fun x t ht => ?_
    have hlt := h.less _ _ _ _ ht
    rw [List.length_drop] at hlt
    rw [ih k g (two op e x) t zb zb zb zb]
    by_cases h4 : g = 4
    ·subst h4
     rw [if_pos rfl, bJ]
     rfl
    ·rw [if_neg h4]
     have hst : start g = g + 1 := by unfold start; split <;> (try split) <;> (try split) <;> (try split) <;> omega
     rw [hst]
     conv => lhs; simp only [down]
     rw [if_neg zb, if_neg zb]
     rw [aGm h g n (k'' + 1) k'' _ t zb zb zb]
end
section
variable {rec : Nat → List Tok → Rd Ex} {sym : List Tok → Option (Int × Nat)}
end
section
variable (prim : (Nat → List Tok → Rd Ex) → List Tok → Rd Ex) (iff : (Nat → List Tok → Rd Ex) → List Tok → Option (Rd Ex)) (nott : (Nat → List Tok → Rd Ex) → List Tok → Option (Rd Ex)) (sym : List Tok → Option (Int × Nat))
def lev (rec : Nat → List Tok → Rd Ex) : Nat → List Tok → Rd Ex
 | 0, l => prim rec l
 | d + 1, l =>
  if 6 - d = 0 then match iff rec l with
   | some r => r
   | none => lev rec d l
  else if 6 - d = 3 then match nott rec l with
   | some r => r
   | none => lev rec d l
  else (lev rec d l).then fun e t => chain sym rec (6 - d) (t.length + 1) e t
end
section
variable {rec : Nat → List Tok → Rd Ex} {sym : List Tok → Option (Int × Nat)}
end
section
variable {prim : (Nat → List Tok → Rd Ex) → List Tok → Rd Ex} {iff : (Nat → List Tok → Rd Ex) → List Tok → Option (Rd Ex)} {nott : (Nat → List Tok → Rd Ex) → List Tok → Option (Rd Ex)} {sym : List Tok → Option (Int × Nat)} {rec : Nat → List Tok → Rd Ex}
end
section
variable (prim : (Nat → List Tok → Rd Ex) → List Tok → Rd Ex) (iff : (Nat → List Tok → Rd Ex) → List Tok → Option (Rd Ex)) (nott : (Nat → List Tok → Rd Ex) → List Tok → Option (Rd Ex)) (sym : List Tok → Option (Int × Nat))
def rexp : Nat → Nat → List Tok → Rd Ex
 | 0, _, l => .bad 0 l.length
 | n + 1, form, l => lev prim iff nott sym (rexp n) (7 - form) l
structure Base : Prop where
 prim : ∀ rec, (∀ f l x t, rec f l = .ok x t → t.length ≤ l.length) → ∀ l x t, prim rec l = .ok x t → t.length ≤ l.length
 iff : ∀ rec, (∀ f l x t, rec f l = .ok x t → t.length ≤ l.length) → ∀ l x t, iff rec l = some (.ok x t) → t.length ≤ l.length
 nott : ∀ rec, (∀ f l x t, rec f l = .ok x t → t.length ≤ l.length) → ∀ l x t, nott rec l = some (.ok x t) → t.length ≤ l.length
 sym : ∀ l op g, sym l = some (op, g) → 0 < l.length ∧ (g = 1 ∨ g = 2 ∨ g = 4 ∨ g = 5 ∨ g = 6)
end
section
variable {prim : (Nat → List Tok → Rd Ex) → List Tok → Rd Ex} {iff : (Nat → List Tok → Rd Ex) → List Tok → Option (Rd Ex)} {nott : (Nat → List Tok → Rd Ex) → List Tok → Option (Rd Ex)} {sym : List Tok → Option (Int × Nat)} {rec : Nat → List Tok → Rd Ex}
theorem xT (h : Parts rec sym) {form : Nat} : ∀ (k own : Nat) (e : Ex) (l : List Tok) (x : Ex) (t : List Tok), ploop sym rec form k own e l = .ok x t → t.length ≤ l.length
 | 0, own, e, l, x, t, hc => by cases hc; exact Nat.le_refl _
 | k + 1, own, e, l, x, t, hc => by
  simp only [ploop] at hc
  cases hs : sym l with
  | none => rw [hs] at hc; cases hc; exact Nat.le_refl _
  | some q =>
   obtain ⟨op, g⟩ := q
   rw [hs] at hc
   simp only at hc
   split at hc
   ·cases hc; exact Nat.le_refl _
   ·cases hr : rec (g + 1) (l.drop 1) with
    | bad p e => rw [hr] at hc; cases hc
    | ok a r =>
     have hl := h.less _ _ _ _ hr
     rw [List.length_drop] at hl
     rw [hr, bJ] at hc
     have := xT h k _ _ _ _ _ hc
     omega
theorem aLo (hb : Base prim iff nott sym) (h : Parts rec sym) {form : Nat} {l : List Tok} {x : Ex × Nat} {t : List Tok} (hp : prfx prim iff nott rec form l = .ok x t) : t.length ≤ l.length := by
 have fin : ∀ {r : Rd Ex} {o : Nat}, (r.then fun e t => Rd.ok (e, o) t) = .ok x t → (∀ y u, r = .ok y u → u.length ≤ l.length) → t.length ≤ l.length := by
  intro r o hr hy
  cases r with
  | bad p e => cases hr
  | ok a u =>
   cases hr
   exact hy a _ rfl
 unfold prfx at hp
 split at hp
 ·rename_i r hi
  refine fin hp fun y u hy => ?_
  split at hi
  ·rw [hy] at hi
   exact hb.iff rec h.less l y u hi
  ·cases hi
 ·split at hp
  ·rename_i r hi
   refine fin hp fun y u hy => ?_
   split at hi
   ·rw [hy] at hi
    exact hb.nott rec h.less l y u hi
   ·cases hi
  ·exact fin hp fun y u hy => hb.prim rec h.less l y u hy
theorem xR (hb : Base prim iff nott sym) : ∀ n, Parts (pexp prim iff nott sym n) sym
 | 0 => ⟨fun f l x t h => (by cases h), hb.sym⟩
 | n + 1 => by
  have ih := xR hb n
  refine ⟨fun f l x t h => ?_, hb.sym⟩
  simp only [pexp] at h
  cases hp : prfx prim iff nott (pexp prim iff nott sym n) f l with
  | bad p e => rw [hp] at h; cases h
  | ok a r =>
   rw [hp, bJ] at h
   have h1 := aLo hb ih hp
   have h2 := xT ih _ _ _ _ _ _ h
   omega
end
abbrev w_if : ByteArray := ⟨#[105, 102]⟩
abbrev w_then : ByteArray := ⟨#[116, 104, 101, 110]⟩
abbrev w_else : ByteArray := ⟨#[101, 108, 115, 101]⟩
abbrev w_not : ByteArray := ⟨#[110, 111, 116]⟩
abbrev w_or : ByteArray := ⟨#[111, 114]⟩
abbrev w_and : ByteArray := ⟨#[97, 110, 100]⟩
abbrev w_eq : ByteArray := ⟨#[61, 61]⟩
abbrev w_lt : ByteArray := ⟨#[60]⟩
abbrev w_plus : ByteArray := ⟨#[43]⟩
abbrev w_minus : ByteArray := ⟨#[45]⟩
abbrev w_times : ByteArray := ⟨#[42]⟩
abbrev w_by : ByteArray := ⟨#[47]⟩
abbrev w_cents : ByteArray := ⟨#[99, 101, 110, 116, 115]⟩
abbrev w_minutes : ByteArray := ⟨#[109, 105, 110, 117, 116, 101, 115]⟩
abbrev w_true : ByteArray := ⟨#[116, 114, 117, 101]⟩
abbrev w_false : ByteArray := ⟨#[102, 97, 108, 115, 101]⟩
abbrev w_trip : ByteArray := ⟨#[116, 114, 105, 112]⟩
abbrev w_member : ByteArray := ⟨#[109, 101, 109, 98, 101, 114]⟩
abbrev w_min : ByteArray := ⟨#[109, 105, 110]⟩
abbrev w_max : ByteArray := ⟨#[109, 97, 120]⟩
abbrev w_lp : ByteArray := ⟨#[40]⟩
abbrev w_rp : ByteArray := ⟨#[41]⟩
abbrev w_comma : ByteArray := ⟨#[44]⟩
abbrev w_semi : ByteArray := ⟨#[59]⟩
abbrev w_is : ByteArray := ⟨#[61]⟩
abbrev w_let : ByteArray := ⟨#[108, 101, 116]⟩
abbrev w_bylaws : ByteArray := ⟨#[98, 121, 108, 97, 119, 115]⟩
abbrev w_admit : ByteArray := ⟨#[97, 100, 109, 105, 116]⟩
abbrev w_fare : ByteArray := ⟨#[102, 97, 114, 101]⟩
abbrev w_late : ByteArray := ⟨#[108, 97, 116, 101]⟩
abbrev w_noshow : ByteArray := ⟨#[110, 111, 115, 104, 111, 119]⟩
abbrev w_quota : ByteArray := ⟨#[113, 117, 111, 116, 97]⟩
abbrev w_share : ByteArray := ⟨#[115, 104, 97, 114, 101]⟩
abbrev w_change : ByteArray := ⟨#[99, 104, 97, 110, 103, 101]⟩
def nxt (l : List Tok) : Tok := l.headD ⟨3, ⟨#[]⟩, 0, 0⟩
def isT (l : List Tok) (s : ByteArray) : Bool := decide ((nxt l).k ≠ 3) && decide ((nxt l).s = s)
def want (l : List Tok) (s : ByteArray) : Rd Unit := if isT l s then .ok () (l.drop 1) else .bad (nxt l).p 12
variable (nameB : ByteArray → Bool)
def nameP (l : List Tok) : Rd ByteArray := if (nxt l).k = 0 ∧ nameB (nxt l).s = true then .ok (nxt l).s (l.drop 1) else .bad (nxt l).p 12
def unitP (l : List Tok) : Int × List Tok := if isT l w_cents then (1, l.drop 1) else if isT l w_minutes then (2, l.drop 1) else (0, l)
def both (rec : Nat → List Tok → Rd Ex) (op : Int) (l : List Tok) : Rd Ex :=
 (want l w_lp).then fun _ l => (rec 0 l).then fun a l => (want l w_comma).then fun _ l => (rec 0 l).then fun b l => (want l w_rp).then fun _ l => .ok (two op a b) l
def leafE (op : Int) (s : ByteArray) : Ex := .mk op 0 0 s []
def numE (n u : Int) : Ex := .mk 0 n u ⟨#[]⟩ []
def primP (rec : Nat → List Tok → Rd Ex) (l : List Tok) : Rd Ex :=
 if (nxt l).k = 1 then .ok (numE (nxt l).n (unitP (l.drop 1)).1) (unitP (l.drop 1)).2
 else if isT l w_true then .ok (numE 1 3) (l.drop 1)
 else if isT l w_false then .ok (numE 0 3) (l.drop 1)
 else if isT l w_trip then (nameP nameB (l.drop 1)).then fun s l => .ok (leafE 2 s) l
 else if isT l w_member then (nameP nameB (l.drop 1)).then fun s l => .ok (leafE 3 s) l
 else if isT l w_min then both rec 8 (l.drop 1)
 else if isT l w_max then both rec 9 (l.drop 1)
 else if isT l w_lp then (rec 0 (l.drop 1)).then fun e l => (want l w_rp).then fun _ l => .ok e l
 else (nameP nameB l).then fun s l => .ok (leafE 1 s) l
def ifP (rec : Nat → List Tok → Rd Ex) (l : List Tok) : Option (Rd Ex) :=
 if isT l w_if then some ((rec 0 (l.drop 1)).then fun a l => (want l w_then).then fun _ l => (rec 0 l).then fun b l => (want l w_else).then fun _ l => (rec 0 l).then fun c l => .ok (.mk 15 0 0 ⟨#[]⟩ [a, b, c]) l) else none
def notP (rec : Nat → List Tok → Rd Ex) (l : List Tok) : Option (Rd Ex) :=
 if isT l w_not then some ((rec 3 (l.drop 1)).then fun a l => .ok (.mk 12 0 0 ⟨#[]⟩ [a]) l) else none
def symP (l : List Tok) : Option (Int × Nat) :=
 if isT l w_or then some (14, 1) else if isT l w_and then some (13, 2) else if isT l w_eq then some (11, 4) else if isT l w_lt then some (10, 4)
 else if isT l w_plus then some (4, 5) else if isT l w_minus then some (5, 5) else if isT l w_times then some (6, 6) else if isT l w_by then some (7, 6) else none
theorem aTl {l : List Tok} {s : ByteArray} (h : isT l s = true) : 0 < l.length := by
 cases l with
 | nil => simp [isT, nxt] at h
 | cons => simp
theorem lK {l t : List Tok} {s : ByteArray} (h : want l s = .ok () t) : t.length ≤ l.length := by
 unfold want at h
 split at h
 ·cases h; simp
 ·cases h
theorem aHc {l t : List Tok} {s : ByteArray} (h : nameP nameB l = .ok s t) : t.length ≤ l.length := by
 unfold nameP at h
 split at h
 ·cases h; simp
 ·cases h
theorem aHy (l : List Tok) : (unitP l).2.length ≤ l.length := by
 unfold unitP
 split
 ·simp
 ·split
  ·simp
  ·exact Nat.le_refl _
theorem bD {α β : Type} {r : Rd α} {f : α → List Tok → Rd β} {y : β} {t : List Tok} (h : r.then f = .ok y t) : ∃ a u, r = .ok a u ∧ f a u = .ok y t := by
 cases r with
 | ok a u => exact ⟨a, u, rfl, h⟩
 | bad p e => cases h
theorem aQx : Base (primP nameB) ifP notP symP where
 prim := fun rec hr l x t h => by
  unfold primP at h
  have hb : ∀ op, both rec op (l.drop 1) = .ok x t → t.length ≤ l.length := fun op h => by
   unfold both at h
   obtain ⟨_, u1, h1, h⟩ := bD h
   obtain ⟨a, u2, h2, h⟩ := bD h
   obtain ⟨_, u3, h3, h⟩ := bD h
   obtain ⟨b, u4, h4, h⟩ := bD h
   obtain ⟨_, u5, h5, h⟩ := bD h
   cases h
   have := lK h1
   have := hr _ _ _ _ h2
   have := lK h3
   have := hr _ _ _ _ h4
   have := lK h5
   rw [List.length_drop] at *
   omega
  have hn : ∀ (op : Int) (l' : List Tok), l'.length ≤ l.length → ((nameP nameB l').then fun s l => Rd.ok (leafE op s) l) = .ok x t → t.length ≤ l.length := fun op l' hl h => by
   obtain ⟨s, u, h1, h⟩ := bD h
   cases h
   have := aHc nameB h1
   omega
  have hd : (l.drop 1).length ≤ l.length := by simp
  split at h
  ·cases h
   have := aHy (l.drop 1)
   omega
  ·split at h
   ·cases h; exact hd
   ·split at h
    ·cases h; exact hd
    ·split at h
     ·exact hn _ _ hd h
     ·split at h
      ·exact hn _ _ hd h
      ·split at h
       ·exact hb _ h
       ·split at h
        ·exact hb _ h
        ·split at h
         ·obtain ⟨e, u, h1, h⟩ := bD h
          obtain ⟨_, u2, h2, h⟩ := bD h
          cases h
          have := hr _ _ _ _ h1
          have := lK h2
          omega
         ·exact hn _ _ (Nat.le_refl _) h
 iff := fun rec hr l x t h => by
  unfold ifP at h
  split at h
  ·injection h with h
   obtain ⟨a, u2, h2, h⟩ := bD h
   obtain ⟨_, u3, h3, h⟩ := bD h
   obtain ⟨b, u4, h4, h⟩ := bD h
   obtain ⟨_, u5, h5, h⟩ := bD h
   obtain ⟨c, u6, h6, h⟩ := bD h
   cases h
   have := hr _ _ _ _ h2
   have := lK h3
   have := hr _ _ _ _ h4
   have := lK h5
   have := hr _ _ _ _ h6
   rw [List.length_drop] at *
   omega
  ·cases h
 nott := fun rec hr l x t h => by
  unfold notP at h
  split at h
  ·injection h with h
   obtain ⟨a, u2, h2, h⟩ := bD h
   cases h
   have := hr _ _ _ _ h2
   rw [List.length_drop] at this
   omega
  ·cases h
 sym := fun l op g h => by
  unfold symP at h
  repeat (split at h; (rename_i hi; cases h; exact ⟨aTl hi, by decide⟩))
  cases h
end
section
def reservedL : List ByteArray := [w_admit, w_and, w_bylaws, w_cents, w_change, w_else, w_false, w_fare, w_if, w_late, w_let, w_max, w_member, w_min, w_minutes, w_noshow, w_not, w_or, w_quota, w_share, w_then, w_trip, w_true]
def nameV (s : ByteArray) : Bool := wordB s && !(reservedL.any fun w => decide (w = s))
def rdE (n form : Nat) (l : List Tok) : Rd Ex := pexp (primP nameV) ifP notP symP n form l
mutual
def Ex.levels : Ex → Nat
 | .mk _ _ _ _ a => Ex.levelsL a + 1
def Ex.levelsL : List Ex → Nat
 | [] => 0
 | x :: r => max x.levels (Ex.levelsL r)
end
mutual
def Ex.wid : Ex → Nat
 | .mk _ _ _ _ a => max a.length (Ex.widL a)
def Ex.widL : List Ex → Nat
 | [] => 0
 | x :: r => max x.wid (Ex.widL r)
end
theorem aRj (e : Ex) : e.args.length ≤ e.wid := by
 cases e
 simp only [Ex.args, Ex.wid]
 omega
theorem aRi {a : List Ex} {i : Nat} (h : i < a.length) : a[i].wid ≤ Ex.widL a := by
 induction a generalizing i with
 | nil => simp at h
 | cons x r ih =>
  cases i with
  | zero => simp only [List.getElem_cons_zero, Ex.widL]; omega
  | succ i =>
   have := ih (i := i) (by simpa using h)
   simp only [List.getElem_cons_succ, Ex.widL]
   omega
theorem aVc {e : Ex} {i : Nat} (h : i < e.args.length) : e.args[i].wid ≤ e.wid := by
 have h1 := aRi h
 obtain ⟨op, n, u, s, a⟩ := e
 simp only [Ex.args, Ex.wid] at h1 ⊢
 omega
def operandsV (op : Int) : Int := if op = 0 ∨ op = 1 ∨ op = 2 ∨ op = 3 then 0 else if op = 12 then 1 else if op = 15 then 3 else if op < 0 ∨ 16 ≤ op then -1 else 2
def numRight (n u : Int) (s : ByteArray) : Bool := decide (s = ⟨#[]⟩) && (decide (0 ≤ u) && decide (u ≤ 3)) && (decide (0 ≤ n) && decide (n ≤ if u = 3 then 1 else 1000000000000000))
mutual
def Ex.right : Ex → Nat → Bool
 | .mk op n u s a, d => !decide (d = 0) && decide ((a.length : Int) = operandsV op) &&
  (if op = 0 then numRight n u s
   else if op = 1 ∨ op = 2 ∨ op = 3 then decide (n = 0) && decide (u = 0) && nameV s
   else decide (n = 0) && decide (u = 0) && decide (s = ⟨#[]⟩) && Ex.rightL a (d - 1))
def Ex.rightL : List Ex → Nat → Bool
 | [], _ => true
 | x :: r, d => x.right d && Ex.rightL r d
end
inductive Der : Nat → List Tok → Ex → Nat → List Tok → Prop where
 | num {f : Nat} {l : List Tok} (hk : (nxt l).k = 1) : Der f l (numE (nxt l).n (unitP (l.drop 1)).1) 7 (unitP (l.drop 1)).2
 | yes {f : Nat} {l : List Tok} (h : isT l w_true = true) : Der f l (numE 1 3) 7 (l.drop 1)
 | no {f : Nat} {l : List Tok} (h : isT l w_false = true) : Der f l (numE 0 3) 7 (l.drop 1)
 | word {f : Nat} {l t : List Tok} {w s : ByteArray} {op : Int} (hw : isT l w = true) (ho : op = 2 ∨ op = 3) (hn : nameP nameV (l.drop 1) = .ok s t) : Der f l (leafE op s) 7 t
 | name {f : Nat} {l t : List Tok} {s : ByteArray} (hn : nameP nameV l = .ok s t) : Der f l (leafE 1 s) 7 t
 | call {f : Nat} {l u v : List Tok} {w : ByteArray} {op : Int} {a b : Ex} {oa ob : Nat} (hw : isT l w = true) (ho : op = 8 ∨ op = 9) (h1 : isT (l.drop 1) w_lp = true) (ha : Der 0 ((l.drop 1).drop 1) a oa u) (h2 : isT u w_comma = true) (hb : Der 0 (u.drop 1) b ob v) (h3 : isT v w_rp = true) : Der f l (two op a b) 7 (v.drop 1)
 | paren {f : Nat} {l u : List Tok} {e : Ex} {o : Nat} (h1 : isT l w_lp = true) (he : Der 0 (l.drop 1) e o u) (h2 : isT u w_rp = true) : Der f l e 7 (u.drop 1)
 | iff {l u v t : List Tok} {a b c : Ex} {oa ob oc : Nat} (h1 : isT l w_if = true) (ha : Der 0 (l.drop 1) a oa u) (h2 : isT u w_then = true) (hb : Der 0 (u.drop 1) b ob v) (h3 : isT v w_else = true) (hc : Der 0 (v.drop 1) c oc t) : Der 0 l (.mk 15 0 0 ⟨#[]⟩ [a, b, c]) 0 t
 | nott {f : Nat} {l t : List Tok} {a : Ex} {o : Nat} (hf : f ≤ 3) (h : isT l w_not = true) (ha : Der 3 (l.drop 1) a o t) : Der f l (.mk 12 0 0 ⟨#[]⟩ [a]) 3 t
 | op {f own op' : Nat} {l t u : List Tok} {op : Int} {a b : Ex} {g : Nat} (ha : Der f l a own t) (hs : symP t = some (op, g)) (hf : f ≤ g) (hg : g ≤ own) (h4 : ¬ (own = 4 ∧ g = 4)) (hb : Der (g + 1) (t.drop 1) b op' u) : Der f l (two op a b) g u
theorem mW {l t : List Tok} {w : ByteArray} {x : Unit} (h : want l w = .ok x t) : isT l w = true ∧ t = l.drop 1 := by
 unfold want at h
 split at h
 ·rename_i h1
  cases h
  exact ⟨h1, rfl⟩
 ·cases h
section
variable {rec : Nat → List Tok → Rd Ex}
theorem aHm (hr : ∀ f l e t, rec f l = .ok e t → ∃ o, Der f l e o t) {f : Nat} {l t : List Tok} {e : Ex} (h : primP nameV rec l = .ok e t) : Der f l e 7 t := by
 have hb : ∀ (w : ByteArray) (op : Int), isT l w = true → (op = 8 ∨ op = 9) → both rec op (l.drop 1) = .ok e t → Der f l e 7 t := fun w op hw ho h => by
  unfold both at h
  obtain ⟨_, u1, h1, g1⟩ := bD h
  obtain ⟨a, u2, h2, g2⟩ := bD g1
  obtain ⟨_, u3, h3, g3⟩ := bD g2
  obtain ⟨b, u4, h4, g4⟩ := bD g3
  obtain ⟨_, u5, h5, g5⟩ := bD g4
  obtain ⟨k1, e1⟩ := mW h1
  obtain ⟨k3, e3⟩ := mW h3
  obtain ⟨k5, e5⟩ := mW h5
  subst e1 e3 e5
  obtain ⟨oa, ha⟩ := hr _ _ _ _ h2
  obtain ⟨ob, hb⟩ := hr _ _ _ _ h4
  cases g5
  exact .call hw ho k1 ha k3 hb k5
 unfold primP at h
 split at h
 ·rename_i hk
  cases h
  exact .num hk
 ·split at h
  ·rename_i hw
   cases h
   exact .yes hw
  ·split at h
   ·rename_i hw
    cases h
    exact .no hw
   ·split at h
    ·rename_i hw
     obtain ⟨s, u, h1, h⟩ := bD h
     cases h
     exact .word hw (.inl rfl) h1
    ·split at h
     ·rename_i hw
      obtain ⟨s, u, h1, h⟩ := bD h
      cases h
      exact .word hw (.inr rfl) h1
     ·split at h
      ·rename_i hw
       exact hb _ _ hw (.inl rfl) h
      ·split at h
       ·rename_i hw
        exact hb _ _ hw (.inr rfl) h
       ·split at h
        ·rename_i hw
         obtain ⟨x, u, h1, h⟩ := bD h
         obtain ⟨_, u2, h2, h⟩ := bD h
         obtain ⟨k2, rfl⟩ := mW h2
         obtain ⟨o, he⟩ := hr _ _ _ _ h1
         cases h
         exact .paren hw he k2
        ·obtain ⟨s, u, h1, h⟩ := bD h
         cases h
         exact .name h1
theorem aOh (hr : ∀ f l e t, rec f l = .ok e t → ∃ o, Der f l e o t) {l t : List Tok} {e : Ex} (h : ifP rec l = some (.ok e t)) : Der 0 l e 0 t := by
 unfold ifP at h
 split at h
 ·rename_i hw
  injection h with g1
  obtain ⟨a, u2, h2, g2⟩ := bD g1
  obtain ⟨_, u3, h3, g3⟩ := bD g2
  obtain ⟨b, u4, h4, g4⟩ := bD g3
  obtain ⟨_, u5, h5, g5⟩ := bD g4
  obtain ⟨c, u6, h6, g6⟩ := bD g5
  obtain ⟨k3, e3⟩ := mW h3
  obtain ⟨k5, e5⟩ := mW h5
  subst e3 e5
  obtain ⟨oa, ha⟩ := hr _ _ _ _ h2
  obtain ⟨ob, hb⟩ := hr _ _ _ _ h4
  obtain ⟨oc, hc⟩ := hr _ _ _ _ h6
  cases g6
  exact .iff hw ha k3 hb k5 hc
 ·cases h
theorem aLh (hr : ∀ f l e t, rec f l = .ok e t → ∃ o, Der f l e o t) {f : Nat} (hf : f ≤ 3) {l t : List Tok} {e : Ex} (h : notP rec l = some (.ok e t)) : Der f l e 3 t := by
 unfold notP at h
 split at h
 ·rename_i hw
  injection h with h
  obtain ⟨a, u2, h2, h⟩ := bD h
  obtain ⟨oa, ha⟩ := hr _ _ _ _ h2
  cases h
  exact .nott hf hw ha
 ·cases h
theorem xU (hr : ∀ f l e t, rec f l = .ok e t → ∃ o, Der f l e o t) {f : Nat} {l t : List Tok} {x : Ex × Nat} (h : prfx (primP nameV) ifP notP rec f l = .ok x t) : Der f l x.1 x.2 t := by
 unfold prfx at h
 split at h
 ·rename_i r hi
  obtain ⟨e, u, h1, h⟩ := bD h
  cases h
  split at hi
  ·rename_i h0
   subst h0
   subst h1
   exact aOh hr hi
  ·cases hi
 ·split at h
  ·rename_i r hi
   obtain ⟨e, u, h1, h⟩ := bD h
   cases h
   split at hi
   ·rename_i h0
    subst h1
    exact aLh hr h0 hi
   ·cases hi
  ·obtain ⟨e, u, h1, h⟩ := bD h
   cases h
   exact aHm hr h1
theorem uP (hr : ∀ f l e t, rec f l = .ok e t → ∃ o, Der f l e o t) {f : Nat} {l : List Tok} : ∀ (k own : Nat) (e : Ex) (t : List Tok) (x : Ex) (u : List Tok), Der f l e own t → ploop symP rec f k own e t = .ok x u → ∃ o, Der f l x o u
 | 0, own, e, t, x, u, hd, h => by
  cases h
  exact ⟨own, hd⟩
 | k + 1, own, e, t, x, u, hd, h => by
  simp only [ploop] at h
  cases hs : symP t with
  | none =>
   rw [hs] at h
   cases h
   exact ⟨own, hd⟩
  | some q =>
   obtain ⟨op, g⟩ := q
   rw [hs] at h
   simp only at h
   split at h
   ·cases h
    exact ⟨own, hd⟩
   ·rename_i hc
    obtain ⟨b, v, h1, h⟩ := bD h
    obtain ⟨ob, hb⟩ := hr _ _ _ _ h1
    exact uP hr k g _ v x u (.op hd hs zb zb zb hb) h
end
theorem sS : ∀ (n f : Nat) (l : List Tok) (e : Ex) (t : List Tok), rdE n f l = .ok e t → ∃ o, Der f l e o t
 | 0, f, l, e, t, h => by cases h
 | n + 1, f, l, e, t, h => by
  have ih := sS n
  unfold rdE at h
  simp only [pexp] at h
  obtain ⟨x, u, h1, h⟩ := bD h
  exact uP (fun f l e t h => ih f l e t h) _ _ _ _ _ _ (xU (fun f l e t h => ih f l e t h) h1) h
def Suf (l t : List Tok) : Prop := ∃ m, l = m ++ t ∧ ∀ x ∈ m, x.k ≠ 3
theorem Suf.refl (l : List Tok) : Suf l l := ⟨[], rfl, by simp⟩
theorem Suf.trans {l t u : List Tok} (h : Suf l t) (k : Suf t u) : Suf l u := by
 obtain ⟨m, rfl, hm⟩ := h
 obtain ⟨m', rfl, hm'⟩ := k
 exact ⟨m ++ m', by simp, fun x hx => (List.mem_append.1 hx).elim (hm x) (hm' x)⟩
theorem mB {l : List Tok} (h : (nxt l).k ≠ 3) : Suf l (l.drop 1) := by
 cases l with
 | nil => exact absurd rfl h
 | cons x r => exact ⟨[x], rfl, by simpa [nxt] using h⟩
theorem oR {l : List Tok} {w : ByteArray} (h : isT l w = true) : (nxt l).k ≠ 3 ∧ (nxt l).s = w := by
 simpa [isT] using h
theorem cD {l : List Tok} {w : ByteArray} (h : isT l w = true) : Suf l (l.drop 1) := mB (oR h).1
theorem aFz (l : List Tok) : Suf l (unitP l).2 := by
 unfold unitP
 split
 ·rename_i h
  exact cD h
 ·split
  ·rename_i h
   exact cD h
  ·exact .refl l
theorem sF {l t : List Tok} {s : ByteArray} (h : nameP nameV l = .ok s t) : (nxt l).k = 0 ∧ nameV (nxt l).s = true ∧ s = (nxt l).s ∧ t = l.drop 1 := by
 unfold nameP at h
 split at h
 ·rename_i h1
  cases h
  exact ⟨h1.1, h1.2, rfl, rfl⟩
 ·cases h
theorem pP {l t : List Tok} {s : ByteArray} (h : nameP nameV l = .ok s t) : Suf l t := by
 obtain ⟨h1, _, _, rfl⟩ := sF h
 exact mB zb
theorem Der.suf {f o : Nat} {l t : List Tok} {e : Ex} (h : Der f l e o t) : Suf l t := by
 induction h with
 | num hk => exact (mB zb).trans (aFz _)
 | yes h => exact cD h
 | no h => exact cD h
 | word hw ho hn => exact (cD hw).trans (pP hn)
 | name hn => exact pP hn
 | call hw ho h1 ha h2 hb h3 iha ihb => exact (cD hw).trans ((cD h1).trans (iha.trans ((cD h2).trans (ihb.trans (cD h3)))))
 | paren h1 he h2 ih => exact (cD h1).trans (ih.trans (cD h2))
 | iff h1 ha h2 hb h3 hc iha ihb ihc => exact (cD h1).trans (iha.trans ((cD h2).trans (ihb.trans ((cD h3).trans ihc))))
 | nott hf h ha ih => exact (cD h).trans ih
 | op ha hs hf hg h4 hb iha ihb =>
  refine iha.trans (Suf.trans ?_ ihb)
  unfold symP at hs
  repeat (split at hs; (rename_i hi; exact cD hi))
  cases hs
def Ends (l : List Tok) : Prop := ∃ m e, l = m ++ [e] ∧ e.k = 3 ∧ ∀ x ∈ m, x.k ≠ 3
theorem Ends.suf {l t : List Tok} (h : Ends l) (hs : Suf l t) : Ends t := by
 obtain ⟨m, e, rfl, he, hm⟩ := h
 obtain ⟨m', h1, h2⟩ := hs
 rcases List.eq_nil_or_concat t with rfl | ⟨t', z, rfl⟩
 ·rw [List.append_nil] at h1
  exact absurd he (h2 e (by rw [← h1]; simp))
 ·rw [List.concat_eq_append] at *
  rw [← List.append_assoc] at h1
  obtain ⟨h3, h4⟩ := List.append_inj' h1 rfl
  injection h4 with h4 _
  subst h4
  exact ⟨t', e, rfl, he, fun x hx => hm x (by rw [h3]; simp [hx])⟩
theorem Ends.pos {l : List Tok} (h : Ends l) : 0 < l.length := by
 obtain ⟨m, e, rfl, _⟩ := h
 simp
theorem Ends.more {l : List Tok} (h : Ends l) (hk : (nxt l).k ≠ 3) : 1 < l.length := by
 have := (h.suf (mB hk)).pos
 rw [List.length_drop] at this
 omega
theorem Ends.less {l : List Tok} (hk : (nxt l).k ≠ 3) : (l.drop 1).length + 1 = l.length := by
 cases l with
 | nil => exact absurd rfl hk
 | cons x r => simp
theorem eJ {l t : List Tok} (h : Suf l t) : t.length ≤ l.length := by
 obtain ⟨m, rfl, _⟩ := h
 simp
theorem oF (op : Int) (a b : Ex) : (two op a b).levels = max a.levels b.levels + 1 := by simp [two, Ex.levels, Ex.levelsL]
theorem aHx {t : List Tok} {op : Int} {g : Nat} (h : symP t = some (op, g)) : ∃ w, isT t w = true := by
 unfold symP at h
 repeat (split at h; (rename_i hi; exact ⟨_, hi⟩))
 cases h
theorem Der.levels {f o : Nat} {l t : List Tok} {e : Ex} (h : Der f l e o t) : e.levels + t.length ≤ l.length := by
 have hd : ∀ {l : List Tok} {w : ByteArray}, isT l w = true → (l.drop 1).length + 1 = l.length := fun h => Ends.less (oR h).1
 induction h with
 | @num f l hk =>
  have h1 := eJ (aFz (l.drop 1))
  have h2 := Ends.less (l := l) zb
  simp only [numE, Ex.levels, Ex.levelsL]
  omega
 | yes h => have := hd h; simp only [numE, Ex.levels, Ex.levelsL]; omega
 | no h => have := hd h; simp only [numE, Ex.levels, Ex.levelsL]; omega
 | word hw ho hn =>
  have := hd hw
  have := eJ (pP hn)
  simp only [leafE, Ex.levels, Ex.levelsL]
  omega
 | name hn =>
  obtain ⟨h1, _, _, rfl⟩ := sF hn
  have := Ends.less (show (nxt _).k ≠ 3 by rw [h1]; decide)
  simp only [leafE, Ex.levels, Ex.levelsL]
  omega
 | call hw ho h1 ha h2 hb h3 iha ihb =>
  have := hd hw
  have := hd h1
  have := hd h2
  have := hd h3
  rw [oF]
  omega
 | paren h1 he h2 ih =>
  have := hd h1
  have := hd h2
  omega
 | iff h1 ha h2 hb h3 hc iha ihb ihc =>
  have := hd h1
  have := hd h2
  have := hd h3
  have := eJ ha.suf
  have := eJ hb.suf
  have := eJ hc.suf
  simp only [Ex.levels, Ex.levelsL]
  omega
 | nott hf h ha ih =>
  have := hd h
  simp only [Ex.levels, Ex.levelsL]
  omega
 | op ha hs hf hg h4 hb iha ihb =>
  obtain ⟨w, hw⟩ := aHx hs
  have := hd hw
  have := eJ hb.suf
  rw [oF]
  omega
theorem Der.wid {f o : Nat} {l t : List Tok} {e : Ex} (h : Der f l e o t) : e.wid ≤ 3 := by
 induction h with
 | num hk => simp [numE, Ex.wid, Ex.widL]
 | yes h => simp [numE, Ex.wid, Ex.widL]
 | no h => simp [numE, Ex.wid, Ex.widL]
 | word hw ho hn => simp [leafE, Ex.wid, Ex.widL]
 | name hn => simp [leafE, Ex.wid, Ex.widL]
 | call hw ho h1 ha h2 hb h3 iha ihb => simp only [two, Ex.wid, Ex.widL, List.length_cons, List.length_nil]; omega
 | paren h1 he h2 ih => exact ih
 | iff h1 ha h2 hb h3 hc iha ihb ihc => simp only [Ex.wid, Ex.widL, List.length_cons, List.length_nil]; omega
 | nott hf h ha ih => simp only [Ex.wid, Ex.widL, List.length_cons, List.length_nil]; omega
 | op ha hs hf hg h4 hb iha ihb => simp only [two, Ex.wid, Ex.widL, List.length_cons, List.length_nil]; omega
def NumsIn (l : List Tok) : Prop := ∀ t ∈ l, t.k = 1 → 0 ≤ t.n ∧ t.n ≤ 1000000000000000
theorem NumsIn.suf {l t : List Tok} (h : NumsIn l) (hs : Suf l t) : NumsIn t := by
 obtain ⟨m, rfl, _⟩ := hs
 exact fun x hx => h x (by simp [hx])
theorem aTs {l : List Tok} (h : (nxt l).k ≠ 3) : nxt l ∈ l := by
 cases l with
 | nil => exact absurd rfl h
 | cons x r => simp [nxt]
theorem aVa (l : List Tok) : (unitP l).1 = 0 ∨ (unitP l).1 = 1 ∨ (unitP l).1 = 2 := by
 unfold unitP
 split
 ·simp
 ·split <;> simp
theorem lQ (e : Ex) : 0 < e.levels := by
 cases e
 simp [Ex.levels]
theorem aXd {t : List Tok} {op : Int} {g : Nat} (h : symP t = some (op, g)) : operandsV op = 2 ∧ op ≠ 0 ∧ op ≠ 1 ∧ op ≠ 2 ∧ op ≠ 3 := by
 unfold symP at h
 repeat (split at h; (cases h; decide))
 cases h
theorem aAu {op : Int} {a b : Ex} {d : Nat} (ho : operandsV op = 2 ∧ op ≠ 0 ∧ op ≠ 1 ∧ op ≠ 2 ∧ op ≠ 3) (hd : 0 < d) (ha : a.right (d - 1) = true) (hb : b.right (d - 1) = true) : (two op a b).right d = true := by
 obtain ⟨h1, h2, h3, h4, h5⟩ := ho
 have : d ≠ 0 := by omega
 simp [two, Ex.right, Ex.rightL, h1, h2, h3, h4, h5, ha, hb, this]
theorem Der.right {f o : Nat} {l t : List Tok} {e : Ex} (h : Der f l e o t) : NumsIn l → ∀ d, e.levels ≤ d → e.right d = true := by
 have hname : ∀ (op : Int) (s : ByteArray) (d : Nat), (op = 1 ∨ op = 2 ∨ op = 3) → nameV s = true → (leafE op s).levels ≤ d → (leafE op s).right d = true := fun op s d ho hs hd => by
  have h0 := lQ (leafE op s)
  have hd0 : d ≠ 0 := by omega
  have ho0 : op ≠ 0 := by omega
  have hop : operandsV op = 0 := by unfold operandsV; rw [if_pos zb]
  simp [leafE, Ex.right, hd0, ho0, ho, hs, hop]
 induction h with
 | @num f l hk =>
  intro hn d hd
  have h0 := lQ (numE (nxt l).n (unitP (l.drop 1)).1)
  have hd0 : d ≠ 0 := by omega
  obtain ⟨h1, h2⟩ := hn _ (aTs zb) hk
  have h3 := aVa (l.drop 1)
  have h4 : (unitP (l.drop 1)).1 ≠ 3 := by omega
  have h5 : 0 ≤ (unitP (l.drop 1)).1 := by omega
  have h6 : (unitP (l.drop 1)).1 ≤ 3 := by omega
  generalize (unitP (l.drop 1)).1 = u at h4 h5 h6
  simp [numE, Ex.right, hd0, numRight, h1, h2, h4, h5, h6, operandsV]
 | yes h =>
  intro _ d hd
  have h0 := lQ (numE 1 3)
  have hd0 : d ≠ 0 := by omega
  simp [numE, Ex.right, hd0, numRight, operandsV]
 | no h =>
  intro _ d hd
  have h0 := lQ (numE 0 3)
  have hd0 : d ≠ 0 := by omega
  simp [numE, Ex.right, hd0, numRight, operandsV]
 | word hw ho hn =>
  intro _ d hd
  obtain ⟨_, h2, rfl, _⟩ := sF hn
  exact hname _ _ d (.inr ho) h2 hd
 | name hn =>
  intro _ d hd
  obtain ⟨_, h2, rfl, _⟩ := sF hn
  exact hname _ _ d (.inl rfl) h2 hd
 | call hw ho h1 ha h2 hb h3 iha ihb =>
  intro hn d hd
  rw [oF] at hd
  have k1 := (hn.suf (cD hw)).suf (cD h1)
  refine aAu (by rcases ho with rfl | rfl <;> decide) zb (iha k1 _ zb) (ihb ((k1.suf ha.suf).suf (cD h2)) _ zb)
 | paren h1 he h2 ih => exact fun hn d hd => ih (hn.suf (cD h1)) d hd
 | iff h1 ha h2 hb h3 hc iha ihb ihc =>
  intro hn d hd
  simp only [Ex.levels, Ex.levelsL] at hd
  have hd0 : d ≠ 0 := by omega
  have k1 := hn.suf (cD h1)
  have k2 := (k1.suf ha.suf).suf (cD h2)
  have k3 := (k2.suf hb.suf).suf (cD h3)
  simp [Ex.right, Ex.rightL, hd0, iha k1 (d - 1) zb, ihb k2 (d - 1) zb, ihc k3 (d - 1) zb, operandsV]
 | nott hf h ha ih =>
  intro hn d hd
  simp only [Ex.levels, Ex.levelsL] at hd
  have hd0 : d ≠ 0 := by omega
  simp [Ex.right, Ex.rightL, hd0, ih (hn.suf (cD h)) (d - 1) zb, operandsV]
 | op ha hs hf hg h4 hb iha ihb =>
  intro hn d hd
  rw [oF] at hd
  obtain ⟨w, hw⟩ := aHx hs
  exact aAu (aXd hs) zb (iha hn _ zb) (ihb ((hn.suf ha.suf).suf (cD hw)) _ zb)
end
end Go.Proofs.YtaodngiigdbgeaaGreatDoor
