/-
  Conditions: none.
-/
import Derived.Laws.IdiomStrings
import Derived.Lib.BufferRead
import Derived.Lib.AppendIntMem
import Derived.Test.YtgiacdhffklenaaMai
set_option maxHeartbeats 16000000
set_option maxRecDepth 20000
section
set_option linter.unusedSimpArgs false
set_option linter.unusedVariables false
namespace Go.Proofs.Ytgiacdhffklenaa
open Go.RowKit
def letterB (c : UInt8) : Bool := decide (97 ≤ (c.toNat : Int)) && decide ((c.toNat : Int) ≤ 122)
def alnumB (c : UInt8) : Bool := letterB c || digitB c
theorem letter_any (c : UInt8) : PureC 72 [.val (.int .u8 c.toNat)] (· = .bool (letterB c)) := by
 refine pure_enter Try.func72 rfl (by decide) _ Try.ntmps72 (le_ok rfl) (fun w Pr hE => ?_)
 dsimp only [slotsOf, Nat.zero_add, Nat.reduceAdd]
 repeat' (first | refine nx ?_ | (apply qr_move; refine r_move ?_) | (apply qr_assign; refine r_assign ?_) | (apply at_guard; first | refine g_go ?_ | refine g_nt ?_ | refine g_nf ?_ | refine g_nu ?_ | ((first | refine al_split_t rfl rfl (lt_ok rfl) (fun hb => ?_) (fun hb => ?_) | refine al_split_f rfl rfl (lt_ok rfl) (fun hb => ?_) (fun hb => ?_)) <;> ((try have hq := dX hb); (try (exfalso; omega))))) | (apply qr_pick; refine r_pick ?_) | (apply qr_leq; refine r_leq ?_) | (apply qr_geq; refine r_geq ?_))
 all_goals (refine ret_one rfl (.d _) ?_; simp [letterB, *])
theorem word1_any (c : UInt8) : PureC 74 [.val (.int .u8 c.toNat)] (· = .bool (alnumB c)) := by
 refine pure_enter Try.func74 rfl (by decide) _ Try.ntmps74 (le_ok rfl) (fun w Pr hE => ?_)
 dsimp only [slotsOf, Nat.zero_add, Nat.reduceAdd]
 repeat' (first | (apply at_call; refine k_call (letter_any _) hE ?_; rintro _ rfl) | (apply at_call; refine k_call (digit_any _) hE ?_; rintro _ rfl) | refine nx ?_ | (apply qr_move; refine r_move ?_) | (apply qr_assign; refine r_assign ?_) | (apply at_guard; first | refine g_go ?_ | refine g_nt ?_ | refine g_nf ?_ | refine g_nu ?_ | ((first | refine al_split_t rfl rfl (lt_ok rfl) (fun hb => ?_) (fun hb => ?_) | refine al_split_f rfl rfl (lt_ok rfl) (fun hb => ?_) (fun hb => ?_)) <;> ((try have hq := dX hb); (try (exfalso; omega))))) | (apply qr_pick; refine r_pick ?_))
 all_goals (refine ret_one rfl (.d _) ?_; simp [alnumB, *])
def wordB (s : ByteArray) : Bool := !decide (s = ⟨#[]⟩) && letterB (bAt s 0) && decide (s.size ≤ 20) && decide (pre alnumB s = s.size)
theorem nonempty {s : ByteArray} (h : ¬ s = ⟨#[]⟩) : 0 < s.size := by
 rcases Nat.eq_zero_or_pos s.size with h0 | h0
 ·exfalso
  apply h
  cases s with
  | mk d => congr 1; exact Array.eq_empty_of_size_eq_zero h0
 ·exact h0
theorem word_any (s : ByteArray) (hs : s.size ≤ 9223372036854775807) : PureC 60 [.str s] (· = .bool (wordB s)) := by
 refine pure_enter Try.func60 rfl (by decide) _ Try.ntmps60 (le_ok rfl) (fun w Pr hE => ?_)
 dsimp only [slotsOf, Nat.zero_add, Nat.reduceAdd]
 by_cases h0 : s = ⟨#[]⟩
 ·have h1 : decide (s = ⟨#[]⟩) = true := decide_eq_true h0
  repeat' (first | refine nx ?_ | (apply qr_move; refine r_move ?_) | (apply qr_assign; refine r_assign ?_) | (apply at_cond; first | refine c_t ?_ | refine c_f ?_ | (refine aw_cond rfl (fun hb => ?_) (fun hb => ?_) <;> ((try have hq := dX hb); (try (exfalso; omega))))) | (apply at_guard; first | refine g_go ?_ | refine g_nt ?_ | refine g_nf ?_ | refine g_nu ?_ | ((first | refine al_split_t rfl rfl (lt_ok rfl) (fun hb => ?_) (fun hb => ?_) | refine al_split_f rfl rfl (lt_ok rfl) (fun hb => ?_) (fun hb => ?_)) <;> ((try have hq := dX hb); (try (exfalso; omega))))) | (apply qr_pick; refine r_pick ?_) | (apply qr_gtr; refine r_gtr ?_) | (apply qr_eql; refine r_eql ?_) | (apply qr_not; refine r_not ?_) | (apply qr_len; refine r_len ?_) | (apply qr_index; refine r_index ?_))
  all_goals (refine ret_one rfl (.d _) ?_; simp [wordB, h0])
 ·have h1 : decide (s = ⟨#[]⟩) = false := decide_eq_false h0
  have hp := nonempty h0
  repeat' (first | (apply at_call; refine k_call (letter_any _) hE ?_; rintro _ rfl) | (apply at_call; refine k_call (span_any s 74 alnumB hs word1_any) hE ?_; rintro _ rfl) | refine nx ?_ | (apply qr_move; refine r_move ?_) | (apply qr_assign; refine r_assign ?_) | (apply at_cond; first | refine c_t ?_ | refine c_f ?_ | (refine aw_cond rfl (fun hb => ?_) (fun hb => ?_) <;> ((try have hq := dX hb); (try (exfalso; omega))))) | (apply at_guard; first | refine g_go ?_ | refine g_nt ?_ | refine g_nf ?_ | refine g_nu ?_ | ((first | refine al_split_t rfl rfl (lt_ok rfl) (fun hb => ?_) (fun hb => ?_) | refine al_split_f rfl rfl (lt_ok rfl) (fun hb => ?_) (fun hb => ?_)) <;> ((try have hq := dX hb); (try (exfalso; omega))))) | (apply qr_pick; refine r_pick ?_) | (apply qr_gtr; refine r_gtr ?_) | (apply qr_eql; refine r_eql ?_) | (apply qr_not; refine r_not ?_) | (apply qr_len; refine r_len ?_) | (apply qr_index; refine r_index ?_))
  ·refine ret_one rfl (.d _) ?_
   have h2 := not_t ‹(!letterB (bAt s 0)) = true›
   simp [wordB, h2]
  ·refine ret_one rfl (.d _) ?_
   have h2 : ¬ s.size ≤ 20 := by omega
   simp [wordB, h2]
  ·refine ret_one rfl (.d _) ?_
   have h2 := not_f ‹(!letterB (bAt s 0)) = false›
   have h3 : s.size ≤ 20 := by omega
   have h4 : decide ((pre alnumB s : Int) = s.size) = decide (pre alnumB s = s.size) := by
    apply decide_eq_decide.2
    omega
   simp [wordB, h0, h2, h3, h4]
end Go.Proofs.Ytgiacdhffklenaa
end
section
namespace Go.Proofs.Ytgiacdhffklenaa
open Go.RowKit
def numTo (s : ByteArray) : Nat → Int
 | 0 => 0
 | k + 1 => 10 * numTo s k + ((bAt s k).toNat - 48)
theorem pre_le (F : UInt8 → Bool) (s : ByteArray) : pre F s ≤ s.size := by
 have := (List.takeWhile_sublist (p := F) (l := s.data.toList)).length_le
 simpa [pre] using this
theorem pre_lt {F : UInt8 → Bool} {s : ByteArray} {j : Nat} (h : j < pre F s) : F (bAt s j) = true := by
 have hl := pre_le F s
 have h1 : j < s.data.toList.length := by simp; have : s.data.size = s.size := rfl; omega
 rw [bAt_eq s j h1]
 have h2 : (s.data.toList.takeWhile F)[j]'h = s.data.toList[j] := by
  have := List.takeWhile_prefix (l := s.data.toList) F
  exact List.IsPrefix.getElem this h
 have h3 := List.all_takeWhile (p := F) (l := s.data.toList)
 rw [List.all_eq_true] at h3
 exact h2 ▸ h3 _ (List.getElem_mem h)
theorem pre_stop {F : UInt8 → Bool} {s : ByteArray} (h : pre F s < s.size) : F (bAt s (pre F s)) = false := by
 have h1 : pre F s < s.data.toList.length := by simpa using h
 rw [bAt_eq s _ h1]
 have key : ∀ (l : List UInt8) (h : (l.takeWhile F).length < l.length), F (l[(l.takeWhile F).length]) = false := by
  intro l
  induction l with
  | nil => intro h; simp at h
  | cons x l ih =>
   intro h
   by_cases hx : F x = true
   ·simp only [List.takeWhile_cons, hx, if_true, List.length_cons, List.getElem_cons_succ] at h ⊢
    exact ih (by omega)
   ·simp [List.takeWhile_cons, hx]
 exact key _ h1
def numOk (s : ByteArray) : Bool := decide (0 < s.size) && decide (pre digitB s = s.size) && (decide (s.size = 1) || !decide ((bAt s 0).toNat = 48)) && decide (numTo s s.size ≤ 1000000000000000)
def numD (s : ByteArray) : D := if numOk s then .tup [.int (numTo s s.size), .bool true] else .tup [.int 0, .bool false]
end Go.Proofs.Ytgiacdhffklenaa
end
section
set_option linter.unusedSimpArgs false
set_option linter.unusedVariables false
namespace Go.Proofs.Ytgiacdhffklenaa
open Go.RowKit
theorem alnum_of {c : UInt8} (h : letterB c = true) : alnumB c = true := by simp [alnumB, h]
end Go.Proofs.Ytgiacdhffklenaa
end
section
namespace Go.Proofs.Ytgiacdhffklenaa
open Go.RowKit
structure Tok where
 k : Int
 s : ByteArray
 n : Int
 p : Int
 deriving DecidableEq
def Tok.cells (t : Tok) : List D := [.int t.k, .str t.s, .int t.n, .int t.p]
def Tok.zero : Tok := ⟨0, ⟨#[]⟩, 0, 0⟩
def hasP (s p : ByteArray) : Bool := Lib.hasPrefix s.data.toList p.data.toList
def signOf (s : ByteArray) : Option ByteArray := signsL.find? (hasP s)
def nextV (s : ByteArray) : Tok × Int :=
 if letterB (bAt s 0) then (if wordB (s.extract 0 (pre alnumB s)) then (⟨0, s.extract 0 (pre alnumB s), 0, 0⟩, 0) else (Tok.zero, 11))
 else if digitB (bAt s 0) then (if numOk (s.extract 0 (pre digitB s)) then (⟨1, s.extract 0 (pre digitB s), numTo (s.extract 0 (pre digitB s)) (pre digitB s), 0⟩, 0) else (Tok.zero, 3))
 else match signOf s with
  | some x => (⟨2, x, 0, 0⟩, 0)
  | none => (Tok.zero, 10)
theorem extract_size {s : ByteArray} {a b : Nat} (h : b ≤ s.size) : (s.extract a b).size = b - a := by simp; omega
end Go.Proofs.Ytgiacdhffklenaa
end
section
namespace Go.Proofs.Ytgiacdhffklenaa
inductive Ex where
 | mk (op n unit : Int) (s : ByteArray) (args : List Ex)
def Ex.op : Ex → Int | .mk op _ _ _ _ => op
def Ex.num : Ex → Int | .mk _ n _ _ _ => n
def Ex.unit : Ex → Int | .mk _ _ u _ _ => u
def Ex.str : Ex → ByteArray | .mk _ _ _ s _ => s
def Ex.args : Ex → List Ex | .mk _ _ _ _ a => a
inductive Rd (α : Type) where
 | ok (x : α) (r : List Tok)
 | bad (pos e : Int)
def Rd.then {α β : Type} (x : Rd α) (f : α → List Tok → Rd β) : Rd β := match x with
 | .ok a r => f a r
 | .bad p e => .bad p e
section
variable (prim : (Nat → List Tok → Rd Ex) → List Tok → Rd Ex) (iff : (Nat → List Tok → Rd Ex) → List Tok → Option (Rd Ex)) (nott : (Nat → List Tok → Rd Ex) → List Tok → Option (Rd Ex)) (sym : List Tok → Option (Int × Nat))
def two (op : Int) (a b : Ex) : Ex := .mk op 0 0 ⟨#[]⟩ [a, b]
def prfx (rec : Nat → List Tok → Rd Ex) (form : Nat) (l : List Tok) : Rd (Ex × Nat) :=
 match (if form = 0 then iff rec l else none) with
 | some r => r.then fun e t => .ok (e, 0) t
 | none => match (if form ≤ 3 then nott rec l else none) with
  | some r => r.then fun e t => .ok (e, 3) t
  | none => (prim rec l).then fun e t => .ok (e, 7) t
def ploop (rec : Nat → List Tok → Rd Ex) (form : Nat) : Nat → Nat → Ex → List Tok → Rd Ex
 | 0, _, e, l => .ok e l
 | k + 1, own, e, l => match sym l with
  | none => .ok e l
  | some (op, g) =>
   if g < form ∨ own < g ∨ (own = 4 ∧ g = 4) then .ok e l
   else (rec (g + 1) (l.drop 1)).then fun x t => ploop rec form k g (two op e x) t
def pexp : Nat → Nat → List Tok → Rd Ex
 | 0, _, l => .bad 0 l.length
 | n + 1, form, l => (prfx prim iff nott (pexp n) form l).then fun x t => ploop sym (pexp n) form (t.length + 1) x.2 x.1 t
def chain (rec : Nat → List Tok → Rd Ex) (form : Nat) : Nat → Ex → List Tok → Rd Ex
 | 0, e, l => .ok e l
 | k + 1, e, l => match sym l with
  | none => .ok e l
  | some (op, g) =>
   if g ≠ form then .ok e l
   else (rec (form + 1) (l.drop 1)).then fun x t => if form = 4 then .ok (two op e x) t else chain rec form k (two op e x) t
def down (rec : Nat → List Tok → Rd Ex) (k form : Nat) : Nat → Ex → List Tok → Rd Ex
 | 0, e, l => .ok e l
 | own + 1, e, l => if own < form then .ok e l else if own = 3 then down rec k form own e l else (chain sym rec own k e l).then fun x t => down rec k form own x t
end
section
variable {rec : Nat → List Tok → Rd Ex} {sym : List Tok → Option (Int × Nat)}
structure Parts (rec : Nat → List Tok → Rd Ex) (sym : List Tok → Option (Int × Nat)) : Prop where
 less : ∀ f l x t, rec f l = .ok x t → t.length ≤ l.length
 some : ∀ l op g, sym l = some (op, g) → 0 < l.length ∧ (g = 1 ∨ g = 2 ∨ g = 4 ∨ g = 5 ∨ g = 6)
def start (own : Nat) : Nat := if own = 7 then 7 else if own = 4 then 4 else if own = 3 then 3 else if own = 0 then 0 else own + 1
end
section
variable {rec : Nat → List Tok → Rd Ex} {sym : List Tok → Option (Int × Nat)}
end
section
variable (prim : (Nat → List Tok → Rd Ex) → List Tok → Rd Ex) (iff : (Nat → List Tok → Rd Ex) → List Tok → Option (Rd Ex)) (nott : (Nat → List Tok → Rd Ex) → List Tok → Option (Rd Ex)) (sym : List Tok → Option (Int × Nat))
def lev (rec : Nat → List Tok → Rd Ex) : Nat → List Tok → Rd Ex
 | 0, l => prim rec l
 | d + 1, l =>
  if 6 - d = 0 then match iff rec l with
   | some r => r
   | none => lev rec d l
  else if 6 - d = 3 then match nott rec l with
   | some r => r
   | none => lev rec d l
  else (lev rec d l).then fun e t => chain sym rec (6 - d) (t.length + 1) e t
end
section
variable {rec : Nat → List Tok → Rd Ex} {sym : List Tok → Option (Int × Nat)}
end
section
variable {prim : (Nat → List Tok → Rd Ex) → List Tok → Rd Ex} {iff : (Nat → List Tok → Rd Ex) → List Tok → Option (Rd Ex)} {nott : (Nat → List Tok → Rd Ex) → List Tok → Option (Rd Ex)} {sym : List Tok → Option (Int × Nat)} {rec : Nat → List Tok → Rd Ex}
end
section
variable (prim : (Nat → List Tok → Rd Ex) → List Tok → Rd Ex) (iff : (Nat → List Tok → Rd Ex) → List Tok → Option (Rd Ex)) (nott : (Nat → List Tok → Rd Ex) → List Tok → Option (Rd Ex)) (sym : List Tok → Option (Int × Nat))
def rexp : Nat → Nat → List Tok → Rd Ex
 | 0, _, l => .bad 0 l.length
 | n + 1, form, l => lev prim iff nott sym (rexp n) (7 - form) l
structure Base : Prop where
 prim : ∀ rec, (∀ f l x t, rec f l = .ok x t → t.length ≤ l.length) → ∀ l x t, prim rec l = .ok x t → t.length ≤ l.length
 iff : ∀ rec, (∀ f l x t, rec f l = .ok x t → t.length ≤ l.length) → ∀ l x t, iff rec l = some (.ok x t) → t.length ≤ l.length
 nott : ∀ rec, (∀ f l x t, rec f l = .ok x t → t.length ≤ l.length) → ∀ l x t, nott rec l = some (.ok x t) → t.length ≤ l.length
 sym : ∀ l op g, sym l = some (op, g) → 0 < l.length ∧ (g = 1 ∨ g = 2 ∨ g = 4 ∨ g = 5 ∨ g = 6)
end
section
variable {prim : (Nat → List Tok → Rd Ex) → List Tok → Rd Ex} {iff : (Nat → List Tok → Rd Ex) → List Tok → Option (Rd Ex)} {nott : (Nat → List Tok → Rd Ex) → List Tok → Option (Rd Ex)} {sym : List Tok → Option (Int × Nat)} {rec : Nat → List Tok → Rd Ex}
end
abbrev w_if : ByteArray := ⟨#[105, 102]⟩
abbrev w_then : ByteArray := ⟨#[116, 104, 101, 110]⟩
abbrev w_else : ByteArray := ⟨#[101, 108, 115, 101]⟩
abbrev w_not : ByteArray := ⟨#[110, 111, 116]⟩
abbrev w_or : ByteArray := ⟨#[111, 114]⟩
abbrev w_and : ByteArray := ⟨#[97, 110, 100]⟩
abbrev w_eq : ByteArray := ⟨#[61, 61]⟩
abbrev w_lt : ByteArray := ⟨#[60]⟩
abbrev w_plus : ByteArray := ⟨#[43]⟩
abbrev w_minus : ByteArray := ⟨#[45]⟩
abbrev w_times : ByteArray := ⟨#[42]⟩
abbrev w_by : ByteArray := ⟨#[47]⟩
abbrev w_cents : ByteArray := ⟨#[99, 101, 110, 116, 115]⟩
abbrev w_minutes : ByteArray := ⟨#[109, 105, 110, 117, 116, 101, 115]⟩
abbrev w_true : ByteArray := ⟨#[116, 114, 117, 101]⟩
abbrev w_false : ByteArray := ⟨#[102, 97, 108, 115, 101]⟩
abbrev w_trip : ByteArray := ⟨#[116, 114, 105, 112]⟩
abbrev w_member : ByteArray := ⟨#[109, 101, 109, 98, 101, 114]⟩
abbrev w_min : ByteArray := ⟨#[109, 105, 110]⟩
abbrev w_max : ByteArray := ⟨#[109, 97, 120]⟩
abbrev w_lp : ByteArray := ⟨#[40]⟩
abbrev w_rp : ByteArray := ⟨#[41]⟩
abbrev w_comma : ByteArray := ⟨#[44]⟩
abbrev w_semi : ByteArray := ⟨#[59]⟩
abbrev w_is : ByteArray := ⟨#[61]⟩
abbrev w_let : ByteArray := ⟨#[108, 101, 116]⟩
abbrev w_bylaws : ByteArray := ⟨#[98, 121, 108, 97, 119, 115]⟩
abbrev w_admit : ByteArray := ⟨#[97, 100, 109, 105, 116]⟩
abbrev w_fare : ByteArray := ⟨#[102, 97, 114, 101]⟩
abbrev w_late : ByteArray := ⟨#[108, 97, 116, 101]⟩
abbrev w_noshow : ByteArray := ⟨#[110, 111, 115, 104, 111, 119]⟩
abbrev w_quota : ByteArray := ⟨#[113, 117, 111, 116, 97]⟩
abbrev w_share : ByteArray := ⟨#[115, 104, 97, 114, 101]⟩
abbrev w_change : ByteArray := ⟨#[99, 104, 97, 110, 103, 101]⟩
def nxt (l : List Tok) : Tok := l.headD ⟨3, ⟨#[]⟩, 0, 0⟩
def isT (l : List Tok) (s : ByteArray) : Bool := decide ((nxt l).k ≠ 3) && decide ((nxt l).s = s)
def want (l : List Tok) (s : ByteArray) : Rd Unit := if isT l s then .ok () (l.drop 1) else .bad (nxt l).p 12
variable (nameB : ByteArray → Bool)
def nameP (l : List Tok) : Rd ByteArray := if (nxt l).k = 0 ∧ nameB (nxt l).s = true then .ok (nxt l).s (l.drop 1) else .bad (nxt l).p 12
def unitP (l : List Tok) : Int × List Tok := if isT l w_cents then (1, l.drop 1) else if isT l w_minutes then (2, l.drop 1) else (0, l)
def both (rec : Nat → List Tok → Rd Ex) (op : Int) (l : List Tok) : Rd Ex :=
 (want l w_lp).then fun _ l => (rec 0 l).then fun a l => (want l w_comma).then fun _ l => (rec 0 l).then fun b l => (want l w_rp).then fun _ l => .ok (two op a b) l
def leafE (op : Int) (s : ByteArray) : Ex := .mk op 0 0 s []
def numE (n u : Int) : Ex := .mk 0 n u ⟨#[]⟩ []
def primP (rec : Nat → List Tok → Rd Ex) (l : List Tok) : Rd Ex :=
 if (nxt l).k = 1 then .ok (numE (nxt l).n (unitP (l.drop 1)).1) (unitP (l.drop 1)).2
 else if isT l w_true then .ok (numE 1 3) (l.drop 1)
 else if isT l w_false then .ok (numE 0 3) (l.drop 1)
 else if isT l w_trip then (nameP nameB (l.drop 1)).then fun s l => .ok (leafE 2 s) l
 else if isT l w_member then (nameP nameB (l.drop 1)).then fun s l => .ok (leafE 3 s) l
 else if isT l w_min then both rec 8 (l.drop 1)
 else if isT l w_max then both rec 9 (l.drop 1)
 else if isT l w_lp then (rec 0 (l.drop 1)).then fun e l => (want l w_rp).then fun _ l => .ok e l
 else (nameP nameB l).then fun s l => .ok (leafE 1 s) l
def ifP (rec : Nat → List Tok → Rd Ex) (l : List Tok) : Option (Rd Ex) :=
 if isT l w_if then some ((rec 0 (l.drop 1)).then fun a l => (want l w_then).then fun _ l => (rec 0 l).then fun b l => (want l w_else).then fun _ l => (rec 0 l).then fun c l => .ok (.mk 15 0 0 ⟨#[]⟩ [a, b, c]) l) else none
def notP (rec : Nat → List Tok → Rd Ex) (l : List Tok) : Option (Rd Ex) :=
 if isT l w_not then some ((rec 3 (l.drop 1)).then fun a l => .ok (.mk 12 0 0 ⟨#[]⟩ [a]) l) else none
def symP (l : List Tok) : Option (Int × Nat) :=
 if isT l w_or then some (14, 1) else if isT l w_and then some (13, 2) else if isT l w_eq then some (11, 4) else if isT l w_lt then some (10, 4)
 else if isT l w_plus then some (4, 5) else if isT l w_minus then some (5, 5) else if isT l w_times then some (6, 6) else if isT l w_by then some (7, 6) else none
end Go.Proofs.Ytgiacdhffklenaa
end
section
namespace Go.Proofs.Ytgiacdhffklenaa
def reservedL : List ByteArray := [w_admit, w_and, w_bylaws, w_cents, w_change, w_else, w_false, w_fare, w_if, w_late, w_let, w_max, w_member, w_min, w_minutes, w_noshow, w_not, w_or, w_quota, w_share, w_then, w_trip, w_true]
def nameV (s : ByteArray) : Bool := wordB s && !(reservedL.any fun w => decide (w = s))
def rdE (n form : Nat) (l : List Tok) : Rd Ex := pexp (primP nameV) ifP notP symP n form l
mutual
def Ex.levels : Ex → Nat
 | .mk _ _ _ _ a => Ex.levelsL a + 1
def Ex.levelsL : List Ex → Nat
 | [] => 0
 | x :: r => max x.levels (Ex.levelsL r)
end
mutual
def Ex.wid : Ex → Nat
 | .mk _ _ _ _ a => max a.length (Ex.widL a)
def Ex.widL : List Ex → Nat
 | [] => 0
 | x :: r => max x.wid (Ex.widL r)
end
def operandsV (op : Int) : Int := if op = 0 ∨ op = 1 ∨ op = 2 ∨ op = 3 then 0 else if op = 12 then 1 else if op = 15 then 3 else if op < 0 ∨ 16 ≤ op then -1 else 2
def numRight (n u : Int) (s : ByteArray) : Bool := decide (s = ⟨#[]⟩) && (decide (0 ≤ u) && decide (u ≤ 3)) && (decide (0 ≤ n) && decide (n ≤ if u = 3 then 1 else 1000000000000000))
mutual
def Ex.right : Ex → Nat → Bool
 | .mk op n u s a, d => !decide (d = 0) && decide ((a.length : Int) = operandsV op) &&
  (if op = 0 then numRight n u s
   else if op = 1 ∨ op = 2 ∨ op = 3 then decide (n = 0) && decide (u = 0) && nameV s
   else decide (n = 0) && decide (u = 0) && decide (s = ⟨#[]⟩) && Ex.rightL a (d - 1))
def Ex.rightL : List Ex → Nat → Bool
 | [], _ => true
 | x :: r, d => x.right d && Ex.rightL r d
end
inductive Der : Nat → List Tok → Ex → Nat → List Tok → Prop where
 | num {f : Nat} {l : List Tok} (hk : (nxt l).k = 1) : Der f l (numE (nxt l).n (unitP (l.drop 1)).1) 7 (unitP (l.drop 1)).2
 | yes {f : Nat} {l : List Tok} (h : isT l w_true = true) : Der f l (numE 1 3) 7 (l.drop 1)
 | no {f : Nat} {l : List Tok} (h : isT l w_false = true) : Der f l (numE 0 3) 7 (l.drop 1)
 | word {f : Nat} {l t : List Tok} {w s : ByteArray} {op : Int} (hw : isT l w = true) (ho : op = 2 ∨ op = 3) (hn : nameP nameV (l.drop 1) = .ok s t) : Der f l (leafE op s) 7 t
 | name {f : Nat} {l t : List Tok} {s : ByteArray} (hn : nameP nameV l = .ok s t) : Der f l (leafE 1 s) 7 t
 | call {f : Nat} {l u v : List Tok} {w : ByteArray} {op : Int} {a b : Ex} {oa ob : Nat} (hw : isT l w = true) (ho : op = 8 ∨ op = 9) (h1 : isT (l.drop 1) w_lp = true) (ha : Der 0 ((l.drop 1).drop 1) a oa u) (h2 : isT u w_comma = true) (hb : Der 0 (u.drop 1) b ob v) (h3 : isT v w_rp = true) : Der f l (two op a b) 7 (v.drop 1)
 | paren {f : Nat} {l u : List Tok} {e : Ex} {o : Nat} (h1 : isT l w_lp = true) (he : Der 0 (l.drop 1) e o u) (h2 : isT u w_rp = true) : Der f l e 7 (u.drop 1)
 | iff {l u v t : List Tok} {a b c : Ex} {oa ob oc : Nat} (h1 : isT l w_if = true) (ha : Der 0 (l.drop 1) a oa u) (h2 : isT u w_then = true) (hb : Der 0 (u.drop 1) b ob v) (h3 : isT v w_else = true) (hc : Der 0 (v.drop 1) c oc t) : Der 0 l (.mk 15 0 0 ⟨#[]⟩ [a, b, c]) 0 t
 | nott {f : Nat} {l t : List Tok} {a : Ex} {o : Nat} (hf : f ≤ 3) (h : isT l w_not = true) (ha : Der 3 (l.drop 1) a o t) : Der f l (.mk 12 0 0 ⟨#[]⟩ [a]) 3 t
 | op {f own op' : Nat} {l t u : List Tok} {op : Int} {a b : Ex} {g : Nat} (ha : Der f l a own t) (hs : symP t = some (op, g)) (hf : f ≤ g) (hg : g ≤ own) (h4 : ¬ (own = 4 ∧ g = 4)) (hb : Der (g + 1) (t.drop 1) b op' u) : Der f l (two op a b) g u
section
variable {rec : Nat → List Tok → Rd Ex}
end
def Suf (l t : List Tok) : Prop := ∃ m, l = m ++ t ∧ ∀ x ∈ m, x.k ≠ 3
theorem Suf.refl (l : List Tok) : Suf l l := ⟨[], rfl, by simp⟩
theorem Suf.trans {l t u : List Tok} (h : Suf l t) (k : Suf t u) : Suf l u := by
 obtain ⟨m, rfl, hm⟩ := h
 obtain ⟨m', rfl, hm'⟩ := k
 exact ⟨m ++ m', by simp, fun x hx => (List.mem_append.1 hx).elim (hm x) (hm' x)⟩
theorem suf_drop {l : List Tok} (h : (nxt l).k ≠ 3) : Suf l (l.drop 1) := by
 cases l with
 | nil => exact absurd rfl h
 | cons x r => exact ⟨[x], rfl, by simpa [nxt] using h⟩
theorem isT_k {l : List Tok} {w : ByteArray} (h : isT l w = true) : (nxt l).k ≠ 3 ∧ (nxt l).s = w := by
 simpa [isT] using h
theorem suf_is {l : List Tok} {w : ByteArray} (h : isT l w = true) : Suf l (l.drop 1) := suf_drop (isT_k h).1
theorem suf_unit (l : List Tok) : Suf l (unitP l).2 := by
 unfold unitP
 split
 ·rename_i h
  exact suf_is h
 ·split
  ·rename_i h
   exact suf_is h
  ·exact .refl l
theorem nameP_ok {l t : List Tok} {s : ByteArray} (h : nameP nameV l = .ok s t) : (nxt l).k = 0 ∧ nameV (nxt l).s = true ∧ s = (nxt l).s ∧ t = l.drop 1 := by
 unfold nameP at h
 split at h
 ·rename_i h1
  cases h
  exact ⟨h1.1, h1.2, rfl, rfl⟩
 ·cases h
theorem suf_name {l t : List Tok} {s : ByteArray} (h : nameP nameV l = .ok s t) : Suf l t := by
 obtain ⟨h1, _, _, rfl⟩ := nameP_ok h
 exact suf_drop (by omega)
theorem Der.suf {f o : Nat} {l t : List Tok} {e : Ex} (h : Der f l e o t) : Suf l t := by
 induction h with
 | num hk => exact (suf_drop (by omega)).trans (suf_unit _)
 | yes h => exact suf_is h
 | no h => exact suf_is h
 | word hw ho hn => exact (suf_is hw).trans (suf_name hn)
 | name hn => exact suf_name hn
 | call hw ho h1 ha h2 hb h3 iha ihb => exact (suf_is hw).trans ((suf_is h1).trans (iha.trans ((suf_is h2).trans (ihb.trans (suf_is h3)))))
 | paren h1 he h2 ih => exact (suf_is h1).trans (ih.trans (suf_is h2))
 | iff h1 ha h2 hb h3 hc iha ihb ihc => exact (suf_is h1).trans (iha.trans ((suf_is h2).trans (ihb.trans ((suf_is h3).trans ihc))))
 | nott hf h ha ih => exact (suf_is h).trans ih
 | op ha hs hf hg h4 hb iha ihb =>
  refine iha.trans (Suf.trans ?_ ihb)
  unfold symP at hs
  repeat (split at hs; (rename_i hi; exact suf_is hi))
  cases hs
def Ends (l : List Tok) : Prop := ∃ m e, l = m ++ [e] ∧ e.k = 3 ∧ ∀ x ∈ m, x.k ≠ 3
theorem Ends.suf {l t : List Tok} (h : Ends l) (hs : Suf l t) : Ends t := by
 obtain ⟨m, e, rfl, he, hm⟩ := h
 obtain ⟨m', h1, h2⟩ := hs
 rcases List.eq_nil_or_concat t with rfl | ⟨t', z, rfl⟩
 ·rw [List.append_nil] at h1
  exact absurd he (h2 e (by rw [← h1]; simp))
 ·rw [List.concat_eq_append] at *
  rw [← List.append_assoc] at h1
  obtain ⟨h3, h4⟩ := List.append_inj' h1 rfl
  injection h4 with h4 _
  subst h4
  exact ⟨t', e, rfl, he, fun x hx => hm x (by rw [h3]; simp [hx])⟩
theorem Ends.pos {l : List Tok} (h : Ends l) : 0 < l.length := by
 obtain ⟨m, e, rfl, _⟩ := h
 simp
theorem Ends.more {l : List Tok} (h : Ends l) (hk : (nxt l).k ≠ 3) : 1 < l.length := by
 have := (h.suf (suf_drop hk)).pos
 rw [List.length_drop] at this
 omega
theorem Ends.less {l : List Tok} (hk : (nxt l).k ≠ 3) : (l.drop 1).length + 1 = l.length := by
 cases l with
 | nil => exact absurd rfl hk
 | cons x r => simp
theorem suf_less {l t : List Tok} (h : Suf l t) : t.length ≤ l.length := by
 obtain ⟨m, rfl, _⟩ := h
 simp
theorem levels_two (op : Int) (a b : Ex) : (two op a b).levels = max a.levels b.levels + 1 := by simp [two, Ex.levels, Ex.levelsL]
theorem sym_is {t : List Tok} {op : Int} {g : Nat} (h : symP t = some (op, g)) : ∃ w, isT t w = true := by
 unfold symP at h
 repeat (split at h; (rename_i hi; exact ⟨_, hi⟩))
 cases h
theorem Der.levels {f o : Nat} {l t : List Tok} {e : Ex} (h : Der f l e o t) : e.levels + t.length ≤ l.length := by
 have hd : ∀ {l : List Tok} {w : ByteArray}, isT l w = true → (l.drop 1).length + 1 = l.length := fun h => Ends.less (isT_k h).1
 induction h with
 | @num f l hk =>
  have h1 := suf_less (suf_unit (l.drop 1))
  have h2 := Ends.less (l := l) (by omega)
  simp only [numE, Ex.levels, Ex.levelsL]
  omega
 | yes h => have := hd h; simp only [numE, Ex.levels, Ex.levelsL]; omega
 | no h => have := hd h; simp only [numE, Ex.levels, Ex.levelsL]; omega
 | word hw ho hn =>
  have := hd hw
  have := suf_less (suf_name hn)
  simp only [leafE, Ex.levels, Ex.levelsL]
  omega
 | name hn =>
  obtain ⟨h1, _, _, rfl⟩ := nameP_ok hn
  have := Ends.less (show (nxt _).k ≠ 3 by rw [h1]; decide)
  simp only [leafE, Ex.levels, Ex.levelsL]
  omega
 | call hw ho h1 ha h2 hb h3 iha ihb =>
  have := hd hw
  have := hd h1
  have := hd h2
  have := hd h3
  rw [levels_two]
  omega
 | paren h1 he h2 ih =>
  have := hd h1
  have := hd h2
  omega
 | iff h1 ha h2 hb h3 hc iha ihb ihc =>
  have := hd h1
  have := hd h2
  have := hd h3
  have := suf_less ha.suf
  have := suf_less hb.suf
  have := suf_less hc.suf
  simp only [Ex.levels, Ex.levelsL]
  omega
 | nott hf h ha ih =>
  have := hd h
  simp only [Ex.levels, Ex.levelsL]
  omega
 | op ha hs hf hg h4 hb iha ihb =>
  obtain ⟨w, hw⟩ := sym_is hs
  have := hd hw
  have := suf_less hb.suf
  rw [levels_two]
  omega
theorem Der.wid {f o : Nat} {l t : List Tok} {e : Ex} (h : Der f l e o t) : e.wid ≤ 3 := by
 induction h with
 | num hk => simp [numE, Ex.wid, Ex.widL]
 | yes h => simp [numE, Ex.wid, Ex.widL]
 | no h => simp [numE, Ex.wid, Ex.widL]
 | word hw ho hn => simp [leafE, Ex.wid, Ex.widL]
 | name hn => simp [leafE, Ex.wid, Ex.widL]
 | call hw ho h1 ha h2 hb h3 iha ihb => simp only [two, Ex.wid, Ex.widL, List.length_cons, List.length_nil]; omega
 | paren h1 he h2 ih => exact ih
 | iff h1 ha h2 hb h3 hc iha ihb ihc => simp only [Ex.wid, Ex.widL, List.length_cons, List.length_nil]; omega
 | nott hf h ha ih => simp only [Ex.wid, Ex.widL, List.length_cons, List.length_nil]; omega
 | op ha hs hf hg h4 hb iha ihb => simp only [two, Ex.wid, Ex.widL, List.length_cons, List.length_nil]; omega
def NumsIn (l : List Tok) : Prop := ∀ t ∈ l, t.k = 1 → 0 ≤ t.n ∧ t.n ≤ 1000000000000000
theorem NumsIn.suf {l t : List Tok} (h : NumsIn l) (hs : Suf l t) : NumsIn t := by
 obtain ⟨m, rfl, _⟩ := hs
 exact fun x hx => h x (by simp [hx])
theorem nxt_mem {l : List Tok} (h : (nxt l).k ≠ 3) : nxt l ∈ l := by
 cases l with
 | nil => exact absurd rfl h
 | cons x r => simp [nxt]
theorem unit_in (l : List Tok) : (unitP l).1 = 0 ∨ (unitP l).1 = 1 ∨ (unitP l).1 = 2 := by
 unfold unitP
 split
 ·simp
 ·split <;> simp
theorem levels_pos (e : Ex) : 0 < e.levels := by
 cases e
 simp [Ex.levels]
theorem sym_op {t : List Tok} {op : Int} {g : Nat} (h : symP t = some (op, g)) : operandsV op = 2 ∧ op ≠ 0 ∧ op ≠ 1 ∧ op ≠ 2 ∧ op ≠ 3 := by
 unfold symP at h
 repeat (split at h; (cases h; decide))
 cases h
theorem two_right {op : Int} {a b : Ex} {d : Nat} (ho : operandsV op = 2 ∧ op ≠ 0 ∧ op ≠ 1 ∧ op ≠ 2 ∧ op ≠ 3) (hd : 0 < d) (ha : a.right (d - 1) = true) (hb : b.right (d - 1) = true) : (two op a b).right d = true := by
 obtain ⟨h1, h2, h3, h4, h5⟩ := ho
 have : d ≠ 0 := by omega
 simp [two, Ex.right, Ex.rightL, h1, h2, h3, h4, h5, ha, hb, this]
theorem Der.right {f o : Nat} {l t : List Tok} {e : Ex} (h : Der f l e o t) : NumsIn l → ∀ d, e.levels ≤ d → e.right d = true := by
 have hname : ∀ (op : Int) (s : ByteArray) (d : Nat), (op = 1 ∨ op = 2 ∨ op = 3) → nameV s = true → (leafE op s).levels ≤ d → (leafE op s).right d = true := fun op s d ho hs hd => by
  have h0 := levels_pos (leafE op s)
  have hd0 : d ≠ 0 := by omega
  have ho0 : op ≠ 0 := by omega
  have hop : operandsV op = 0 := by unfold operandsV; rw [if_pos (by omega)]
  simp [leafE, Ex.right, hd0, ho0, ho, hs, hop]
 induction h with
 | @num f l hk =>
  intro hn d hd
  have h0 := levels_pos (numE (nxt l).n (unitP (l.drop 1)).1)
  have hd0 : d ≠ 0 := by omega
  obtain ⟨h1, h2⟩ := hn _ (nxt_mem (by omega)) hk
  have h3 := unit_in (l.drop 1)
  have h4 : (unitP (l.drop 1)).1 ≠ 3 := by omega
  have h5 : 0 ≤ (unitP (l.drop 1)).1 := by omega
  have h6 : (unitP (l.drop 1)).1 ≤ 3 := by omega
  generalize (unitP (l.drop 1)).1 = u at h4 h5 h6
  simp [numE, Ex.right, hd0, numRight, h1, h2, h4, h5, h6, operandsV]
 | yes h =>
  intro _ d hd
  have h0 := levels_pos (numE 1 3)
  have hd0 : d ≠ 0 := by omega
  simp [numE, Ex.right, hd0, numRight, operandsV]
 | no h =>
  intro _ d hd
  have h0 := levels_pos (numE 0 3)
  have hd0 : d ≠ 0 := by omega
  simp [numE, Ex.right, hd0, numRight, operandsV]
 | word hw ho hn =>
  intro _ d hd
  obtain ⟨_, h2, rfl, _⟩ := nameP_ok hn
  exact hname _ _ d (.inr ho) h2 hd
 | name hn =>
  intro _ d hd
  obtain ⟨_, h2, rfl, _⟩ := nameP_ok hn
  exact hname _ _ d (.inl rfl) h2 hd
 | call hw ho h1 ha h2 hb h3 iha ihb =>
  intro hn d hd
  rw [levels_two] at hd
  have k1 := (hn.suf (suf_is hw)).suf (suf_is h1)
  refine two_right (by rcases ho with rfl | rfl <;> decide) (by omega) (iha k1 _ (by omega)) (ihb ((k1.suf ha.suf).suf (suf_is h2)) _ (by omega))
 | paren h1 he h2 ih => exact fun hn d hd => ih (hn.suf (suf_is h1)) d hd
 | iff h1 ha h2 hb h3 hc iha ihb ihc =>
  intro hn d hd
  simp only [Ex.levels, Ex.levelsL] at hd
  have hd0 : d ≠ 0 := by omega
  have k1 := hn.suf (suf_is h1)
  have k2 := (k1.suf ha.suf).suf (suf_is h2)
  have k3 := (k2.suf hb.suf).suf (suf_is h3)
  simp [Ex.right, Ex.rightL, hd0, iha k1 (d - 1) (by omega), ihb k2 (d - 1) (by omega), ihc k3 (d - 1) (by omega), operandsV]
 | nott hf h ha ih =>
  intro hn d hd
  simp only [Ex.levels, Ex.levelsL] at hd
  have hd0 : d ≠ 0 := by omega
  simp [Ex.right, Ex.rightL, hd0, ih (hn.suf (suf_is h)) (d - 1) (by omega), operandsV]
 | op ha hs hf hg h4 hb iha ihb =>
  intro hn d hd
  rw [levels_two] at hd
  obtain ⟨w, hw⟩ := sym_is hs
  exact two_right (sym_op hs) (by omega) (iha hn _ (by omega)) (ihb ((hn.suf ha.suf).suf (suf_is hw)) _ (by omega))
end Go.Proofs.Ytgiacdhffklenaa
end
section
namespace Go.Proofs.Ytgiacdhffklenaa
abbrev wordT (s : ByteArray) : Tok := ⟨0, s, 0, 0⟩
abbrev signT (s : ByteArray) : Tok := ⟨2, s, 0, 0⟩
def opInfo (op : Int) : Option (Tok × Nat) :=
 if op = 14 then some (wordT w_or, 1) else if op = 13 then some (wordT w_and, 2) else if op = 11 then some (signT w_eq, 4) else if op = 10 then some (signT w_lt, 4)
 else if op = 4 then some (signT w_plus, 5) else if op = 5 then some (signT w_minus, 5) else if op = 6 then some (signT w_times, 6) else if op = 7 then some (signT w_by, 6) else none
def formV (op : Int) : Nat := if op = 15 then 0 else if op = 12 then 3 else match opInfo op with
 | some (_, g) => g
 | none => 7
def leftV (g : Nat) : Nat := if g = 4 then 5 else g
section
variable (decB : Int → ByteArray)
def numToks (n u : Int) : List Tok :=
 if u = 3 then (if n = 1 then [wordT w_true] else [wordT w_false])
 else if u = 1 then [⟨1, decB n, n, 0⟩, wordT w_cents]
 else if u = 2 then [⟨1, decB n, n, 0⟩, wordT w_minutes]
 else [⟨1, decB n, n, 0⟩]
def bodyToks (op n u : Int) (s : ByteArray) (a : List (Nat → List Tok)) : List Tok :=
 if op = 0 then numToks decB n u
 else if op = 1 then [wordT s]
 else if op = 2 then [wordT w_trip, wordT s]
 else if op = 3 then [wordT w_member, wordT s]
 else if op = 15 then (match a with
  | [x, y, z] => wordT w_if :: (x 0 ++ wordT w_then :: (y 0 ++ wordT w_else :: z 0))
  | _ => [])
 else if op = 12 then (match a with
  | [x] => wordT w_not :: x 3
  | _ => [])
 else match opInfo op, a with
  | some (t, g), [x, y] => x (leftV g) ++ t :: y (g + 1)
  | none, [x, y] => wordT (if op = 8 then w_min else w_max) :: signT w_lp :: (x 0 ++ signT w_comma :: (y 0 ++ [signT w_rp]))
  | _, _ => []
mutual
def Ex.toks : Ex → (Nat → List Tok)
 | .mk op n u s a => fun f => if formV op < f then signT w_lp :: (bodyToks decB op n u s (Ex.toksL a) ++ [signT w_rp]) else bodyToks decB op n u s (Ex.toksL a)
def Ex.toksL : List Ex → List (Nat → List Tok)
 | [] => []
 | x :: r => Ex.toks x :: Ex.toksL r
end
def Ex.body (e : Ex) : List Tok := e.toks decB 0
theorem Der.form {f o : Nat} {l t : List Tok} {e : Ex} (h : Der f l e o t) (hf : f ≤ 7) : f ≤ o := by
 cases h with
 | iff => exact Nat.le_refl 0
 | nott hf h ha => exact hf
 | op ha hs hf hg h4 hb => exact hf
 | _ => exact hf
end
end Go.Proofs.Ytgiacdhffklenaa
end
section
namespace Go.Proofs.Ytgiacdhffklenaa
open Go.RowKit
def singles : ByteArray := ⟨#[59, 44, 61, 60, 43, 45, 42, 47, 40, 41]⟩
def singleB (c : UInt8) : Bool := (List.range 10).any fun j => decide (c.toNat = (bAt singles j).toNat)
def signTo (s : ByteArray) (p : Nat) : Int :=
 if p + 1 < s.size ∧ (bAt s (p + 1)).toNat = 61 ∧ (bAt s p).toNat = 61 then 2 else if singleB (bAt s p) then 1 else 0
theorem bAt_ext {s : ByteArray} {a b i : Nat} (h : a + i < b) (hb : b ≤ s.size) : bAt (s.extract a b) i = bAt s (a + i) := by
 have h1 : i < (s.extract a b).data.toList.length := by simp; omega
 have h2 : a + i < s.data.toList.length := by simp; omega
 rw [bAt_eq _ _ h1, bAt_eq _ _ h2]
 simp
theorem ext_ext {s : ByteArray} {a k : Nat} (h : a + k ≤ s.size) : (s.extract a s.size).extract 0 k = s.extract a (a + k) := by
 rw [ByteArray.extract_extract]
 congr 1
 omega
theorem pre_ext {F : UInt8 → Bool} {s : ByteArray} {p k : Nat} (hpk : p ≤ k) (hk : k ≤ s.size) (h1 : ∀ j, p ≤ j → j < k → F (bAt s j) = true) (h2 : k < s.size → F (bAt s k) = false) : pre F (s.extract p s.size) = k - p := by
 have hz : (s.extract p s.size).size = s.size - p := by simp
 refine pre_at F _ _ (by omega) (fun j hj => ?_) (fun hj => ?_)
 ·rw [bAt_ext (by omega) (Nat.le_refl _)]
  exact h1 _ (by omega) (by omega)
 ·rw [bAt_ext (by omega) (Nat.le_refl _), show p + (k - p) = k by omega]
  exact h2 (by omega)
def tokenV (s : ByteArray) (p : Nat) : Tok × Int :=
 let r := nextV (s.extract p s.size)
 if r.2 = 0 then ({ r.1 with p := p }, 0) else (Tok.zero, r.2)
theorem size_mk (l : List UInt8) : ByteArray.size ⟨⟨l⟩⟩ = l.length := rfl
theorem hasP_one (y : ByteArray) (a : UInt8) : hasP y ⟨#[a]⟩ = decide (0 < y.size ∧ bAt y 0 = a) := by
 obtain ⟨⟨l⟩⟩ := y
 cases l with
 | nil => rfl
 | cons c l => simp [hasP, Lib.hasPrefix, bAt, size_mk, List.isPrefixOf, Bool.beq_eq_decide_eq, eq_comm]
theorem hasP_two (y : ByteArray) (a b : UInt8) : hasP y ⟨#[a, b]⟩ = decide (1 < y.size ∧ bAt y 1 = b ∧ bAt y 0 = a) := by
 obtain ⟨⟨l⟩⟩ := y
 cases l with
 | nil => rfl
 | cons c l =>
  cases l with
  | nil => simp [hasP, Lib.hasPrefix, bAt, size_mk, List.isPrefixOf]
  | cons d l => simp [hasP, Lib.hasPrefix, bAt, size_mk, List.isPrefixOf, Bool.beq_eq_decide_eq, eq_comm, and_comm]
theorem signs_map : signsL = ⟨#[61, 61]⟩ :: (List.range 10).map fun j => ⟨#[bAt singles j]⟩ := by decide
theorem byte_eq (a b : UInt8) : a = b ↔ a.toNat = b.toNat := ⟨fun h => h ▸ rfl, fun h => UInt8.toNat_inj.1 h⟩
theorem signOf_len (s : ByteArray) (p : Nat) (hp : p < s.size) : (match signOf (s.extract p s.size) with | some x => (p + x.size ≤ s.size ∧ s.extract p (p + x.size) = x ∧ signTo s p = x.size ∧ 0 < x.size) | none => signTo s p = 0) := by
 have hz : (s.extract p s.size).size = s.size - p := by simp
 have hb0 : bAt (s.extract p s.size) 0 = bAt s p := by rw [bAt_ext (by omega) (Nat.le_refl _), Nat.add_zero]
 have key : ∀ x, hasP (s.extract p s.size) x = true → p + x.size ≤ s.size ∧ s.extract p (p + x.size) = x := by
  intro x hx
  obtain ⟨r, hr⟩ := List.isPrefixOf_iff_prefix.1 hx
  have h1 := congrArg List.length hr
  have h2 : x.data.toList.length = x.size := by simp
  have h3 : (s.extract p s.size).data.toList.length = s.size - p := by simp
  rw [List.length_append, h2, h3] at h1
  refine ⟨by omega, ?_⟩
  have h4 := ext_ext (s := s) (a := p) (k := x.size) (by omega)
  rw [← h4]
  apply ByteArray.ext
  apply Array.toList_inj.1
  rw [ByteArray.data_extract, Array.toList_extract, List.extract_eq_take_drop, List.drop_zero, Nat.sub_zero, ← hr, ← h2, List.take_left]
 rw [signOf, signs_map, List.find?_cons]
 by_cases h2 : p + 1 < s.size ∧ (bAt s (p + 1)).toNat = 61 ∧ (bAt s p).toNat = 61
 ·have h3 : hasP (s.extract p s.size) ⟨#[61, 61]⟩ = true := by
   rw [hasP_two]
   apply decide_eq_true
   refine ⟨by omega, ?_, ?_⟩
   ·rw [bAt_ext (by omega) (Nat.le_refl _), byte_eq]; exact h2.2.1
   ·rw [hb0, byte_eq]; exact h2.2.2
  rw [h3]
  obtain ⟨k1, k2⟩ := key _ h3
  exact ⟨k1, k2, by simp [signTo, h2]; rfl, by decide⟩
 ·have h3 : hasP (s.extract p s.size) ⟨#[61, 61]⟩ = false := by
   rw [hasP_two]
   apply decide_eq_false
   rintro ⟨q1, q2, q3⟩
   refine h2 ⟨by omega, ?_, ?_⟩
   ·rw [bAt_ext (by omega) (Nat.le_refl _), byte_eq] at q2; exact q2
   ·rw [hb0, byte_eq] at q3; exact q3
  rw [h3]
  dsimp only
  rw [List.find?_map]
  cases hf : (List.range 10).find? ((hasP (s.extract p s.size)) ∘ fun j => ⟨#[bAt singles j]⟩) with
  | none =>
   have h4 : singleB (bAt s p) = false := by
    rw [singleB, List.any_eq_false]
    intro j hj
    have h5 := List.find?_eq_none.1 hf j hj
    simp only [Function.comp_apply, hasP_one, decide_eq_true_eq, hz, hb0] at h5
    simp only [decide_eq_true_eq]
    intro h6
    exact h5 ⟨by omega, (byte_eq _ _).2 h6⟩
   simp [signTo, h2, h4]
  | some j =>
   have h5 := List.find?_some hf
   have h6 := List.mem_of_find?_eq_some hf
   have h7 := h5
   simp only [Function.comp_apply, hasP_one, decide_eq_true_eq, hz, hb0] at h7
   have h4 : singleB (bAt s p) = true := List.any_eq_true.2 ⟨j, h6, decide_eq_true ((byte_eq _ _).1 h7.2)⟩
   obtain ⟨k1, k2⟩ := key _ h5
   exact ⟨k1, k2, by simp [signTo, h2, h4]; rfl, Nat.one_pos⟩
theorem token_word {s : ByteArray} {p k : Nat} (hl : letterB (bAt s p) = true) (hpk : p < k) (hk : k ≤ s.size) (hpre : pre alnumB (s.extract p s.size) = k - p) : tokenV s p = if k - p ≤ 20 then (⟨0, s.extract p k, 0, p⟩, 0) else (Tok.zero, 11) := by
 have h0 : bAt (s.extract p s.size) 0 = bAt s p := by rw [bAt_ext (by omega) (Nat.le_refl _), Nat.add_zero]
 have e1 : (s.extract p s.size).extract 0 (k - p) = s.extract p k := by rw [ext_ext (by omega), show p + (k - p) = k by omega]
 have h2 : (s.extract p k).size = k - p := by simp; omega
 have h3 : pre alnumB (s.extract p k) = k - p := by
  rw [← e1]
  have h4 : (s.extract p s.size).size = s.size - p := by simp
  refine pre_at _ _ _ (by simp; omega) (fun j hj => ?_) (fun hj => absurd hj (by simp; omega))
  rw [bAt_ext (by omega) (by omega), Nat.zero_add]
  exact pre_lt (by omega)
 have h5 : bAt (s.extract p k) 0 = bAt s p := by rw [bAt_ext (by omega) hk, Nat.add_zero]
 have h6 : ¬ s.extract p k = ⟨#[]⟩ := fun e => by
  have := congrArg ByteArray.size e
  rw [h2] at this
  simp only [ByteArray.size, Array.size_empty] at this
  omega
 have h7 : wordB (s.extract p k) = decide (k - p ≤ 20) := by simp [wordB, h6, h5, hl, h2, h3]
 simp only [tokenV, nextV, h0, hl, hpre, e1, h7, if_true]
 by_cases h8 : k - p ≤ 20
 ·simp [h8]
 ·simp [h8]
theorem token_num {s : ByteArray} {p k : Nat} (hl : letterB (bAt s p) = false) (hd : digitB (bAt s p) = true) (hpk : p < k) (hk : k ≤ s.size) (hpre : pre digitB (s.extract p s.size) = k - p) : tokenV s p = if numOk (s.extract p k) then (⟨1, s.extract p k, numTo (s.extract p k) (s.extract p k).size, p⟩, 0) else (Tok.zero, 3) := by
 have h0 : bAt (s.extract p s.size) 0 = bAt s p := by rw [bAt_ext (by omega) (Nat.le_refl _), Nat.add_zero]
 have e1 : (s.extract p s.size).extract 0 (k - p) = s.extract p k := by rw [ext_ext (by omega), show p + (k - p) = k by omega]
 have h2 : (s.extract p k).size = k - p := by simp; omega
 simp only [tokenV, nextV, h0, hl, hd, hpre, e1, if_true, h2]
 cases h8 : numOk (s.extract p k) <;> simp
theorem token_sign {s : ByteArray} {p : Nat} (hl : letterB (bAt s p) = false) (hd : digitB (bAt s p) = false) (hp : p < s.size) : tokenV s p = if signTo s p = 0 then (Tok.zero, 10) else (⟨2, s.extract p (p + (signTo s p).toNat), 0, p⟩, 0) := by
 have h0 : bAt (s.extract p s.size) 0 = bAt s p := by rw [bAt_ext (by omega) (Nat.le_refl _), Nat.add_zero]
 have h1 := signOf_len s p hp
 simp only [tokenV, nextV, h0, hl, hd]
 cases hq : signOf (s.extract p s.size) with
 | none => rw [hq] at h1; simp [h1]
 | some x =>
  rw [hq] at h1
  obtain ⟨h2, h3, h4, h5⟩ := h1
  have h6 : ¬ (x.size : Int) = 0 := by omega
  simp only [h4, h6, Int.toNat_natCast, h3, if_true, if_false]
  rfl
theorem signTo_bd {s : ByteArray} {p : Nat} (hp : p < s.size) : 0 ≤ signTo s p ∧ signTo s p ≤ 2 ∧ p + (signTo s p).toNat ≤ s.size := by
 unfold signTo
 split
 ·omega
 ·split <;> omega
end Go.Proofs.Ytgiacdhffklenaa
end
section
namespace Go.Proofs.Ytgiacdhffklenaa
open Go.RowKit
end Go.Proofs.Ytgiacdhffklenaa
end
section
namespace Go.Proofs.Ytgiacdhffklenaa
open Go.RowKit
def endTok (p : Nat) : Tok := ⟨3, ⟨#[]⟩, 0, p⟩
def skip (s : ByteArray) (p : Nat) : Nat := p + pre isBlank (s.extract p s.size)
def lexF (s : ByteArray) : Nat → Nat → List Tok → List Tok × Int × Int
 | 0, _, _ => ([], 0, 0)
 | n + 1, p, out =>
  if skip s p = s.size then (out ++ [endTok s.size], 0, 0)
  else if (tokenV s (skip s p)).2 = 0 then lexF s n (skip s p + (tokenV s (skip s p)).1.s.size) (out ++ [(tokenV s (skip s p)).1])
  else ([], skip s p, (tokenV s (skip s p)).2)
def lexV (s : ByteArray) : List Tok × Int × Int := if s.size > 4000 then ([], 0, 6) else lexF s (s.size + 1) 0 []
def lexD (r : List Tok × Int × Int) : D := .tup [.list 4 (r.1.map Tok.cells), .int r.2.1, .int r.2.2]
theorem skip_le {s : ByteArray} {p : Nat} (h : p ≤ s.size) : p ≤ skip s p ∧ skip s p ≤ s.size := by
 have h1 := pre_le isBlank (s.extract p s.size)
 have h2 : (s.extract p s.size).size = s.size - p := by simp
 unfold skip
 omega
theorem tokenV_size {s : ByteArray} {p : Nat} (hp : p < s.size) (he : (tokenV s p).2 = 0) : 0 < (tokenV s p).1.s.size ∧ p + (tokenV s p).1.s.size ≤ s.size := by
 have hz : (s.extract p s.size).size = s.size - p := by simp
 have h0 : bAt (s.extract p s.size) 0 = bAt s p := by rw [bAt_ext (by omega) (Nat.le_refl _), Nat.add_zero]
 have hpos : ∀ F : UInt8 → Bool, F (bAt s p) = true → 0 < pre F (s.extract p s.size) := by
  intro F hF
  rcases Nat.eq_zero_or_pos (pre F (s.extract p s.size)) with h | h
  ·exfalso
   have h1 := pre_stop (F := F) (s := s.extract p s.size) (by omega)
   rw [h, h0, hF] at h1
   cases h1
  ·exact h
 have hle : ∀ F : UInt8 → Bool, pre F (s.extract p s.size) ≤ s.size - p := fun F => by have := pre_le F (s.extract p s.size); omega
 cases hl : letterB (bAt s p)
 ·cases hd : digitB (bAt s p)
  ·rw [token_sign hl hd hp] at he ⊢
   have h1 := signTo_bd hp
   by_cases h2 : signTo s p = 0
   ·rw [if_pos h2] at he; cases he
   ·rw [if_neg h2]
    simp only [ByteArray.size_extract]
    omega
  ·have h1 := hpos digitB hd
   have h2 := hle digitB
   rw [token_num (k := p + pre digitB (s.extract p s.size)) hl hd (by omega) (by omega) (by omega)] at he ⊢
   split
   ·simp only [ByteArray.size_extract]
    omega
   ·rename_i h3
    rw [if_neg h3] at he
    cases he
 ·have h1 := hpos alnumB (alnum_of hl)
  have h2 := hle alnumB
  rw [token_word (k := p + pre alnumB (s.extract p s.size)) hl (by omega) (by omega) (by omega)] at he ⊢
  split
  ·simp only [ByteArray.size_extract]
   omega
  ·rename_i h3
   rw [if_neg h3] at he
   cases he
theorem skip_stop {s : ByteArray} {p : Nat} (hp : p < s.size) (h : isBlank (bAt s p) = false) : skip s p = p := by
 have h1 := pre_ext (F := isBlank) (Nat.le_refl p) (Nat.le_of_lt hp) (fun j h1 h2 => by omega) (fun _ => h)
 unfold skip
 omega
theorem skip_fact {s : ByteArray} {p : Nat} (hp : p ≤ s.size) : (∀ j, p ≤ j → j < skip s p → isBlank (bAt s j) = true) ∧ (skip s p < s.size → isBlank (bAt s (skip s p)) = false) := by
 have hz : (s.extract p s.size).size = s.size - p := by simp
 have hl := pre_le isBlank (s.extract p s.size)
 have e : skip s p = p + pre isBlank (s.extract p s.size) := rfl
 rw [e]
 refine ⟨fun j h1 h2 => ?_, fun h => ?_⟩
 ·have h3 := pre_lt (F := isBlank) (s := s.extract p s.size) (j := j - p) (by omega)
  rw [bAt_ext (by omega) (Nat.le_refl _), show p + (j - p) = j by omega] at h3
  exact h3
 ·have h3 := pre_stop (F := isBlank) (s := s.extract p s.size) (by omega)
  rw [bAt_ext (by omega) (Nat.le_refl _)] at h3
  exact h3
theorem skip_is {s : ByteArray} {p k : Nat} (hpk : p ≤ k) (hk : k ≤ s.size) (h1 : ∀ j, p ≤ j → j < k → isBlank (bAt s j) = true) (h2 : k < s.size → isBlank (bAt s k) = false) : skip s p = k := by
 have h3 := pre_ext (F := isBlank) hpk hk h1 h2
 unfold skip
 omega
theorem skip_more {s : ByteArray} {p : Nat} (hp : p < s.size) (h : isBlank (bAt s p) = true) : skip s p = skip s (p + 1) := by
 obtain ⟨h1, h2⟩ := skip_fact (s := s) (p := p + 1) (by omega)
 have h3 := skip_le (s := s) (p := p + 1) (by omega)
 refine skip_is (by omega) h3.2 (fun j h4 h5 => ?_) h2
 by_cases h6 : j = p
 ·rw [h6]; exact h
 ·exact h1 j (by omega) h5
attribute [local irreducible] nextV tokenV lexV pre ByteArray.extract lexF skip
end Go.Proofs.Ytgiacdhffklenaa
end
section
namespace Go.Proofs.Ytgiacdhffklenaa
open Go.RowKit
abbrev tokC (t : Tok) : List D := [.int t.k, .str t.s, .int t.n, .int t.p]
abbrev strsD (l : List ByteArray) : D := .list 1 (l.map fun s => [D.str s])
def Out {α : Type} (R : Rd α) (val : α → V) (st : List Tok → Objs) : V → Objs → Prop := fun x o => ∃ a t, R = .ok a t ∧ x = val a ∧ o = st t
section
variable {α : Type} {f : FuncId} {args : List V} {ob : Objs} {new : List Nat} {R : Rd α} {val : α → V} {st : List Tok → Objs} {a : α} {t : List Tok} {p e : Int}
end
def atN (L l : List Tok) : Nat := L.length - l.length
structure Rdy (L l : List Tok) : Prop where
 suf : Suf L l
 ends : Ends L
 len : L.length ≤ 100000
section
variable {L l t : List Tok}
theorem Rdy.to (h : Rdy L l) (k : Suf l t) : Rdy L t := ⟨h.suf.trans k, h.ends, h.len⟩
theorem Rdy.e (h : Rdy L l) : Ends l := h.ends.suf h.suf
theorem Rdy.at (h : Rdy L l) : atN L l < L.length ∧ L[atN L l]? = some (nxt l) := by
 have h1 := h.e.pos
 obtain ⟨m, h2, _⟩ := h.suf
 have h3 : atN L l = m.length := by rw [atN, h2]; simp
 have h4 : L.length = m.length + l.length := by rw [h2]; simp
 refine ⟨by omega, ?_⟩
 rw [h3, h2, List.getElem?_append_right (Nat.le_refl _), Nat.sub_self]
 cases l with
 | nil => simp at h1
 | cons x r => rfl
theorem Rdy.get (h : Rdy L l) : (L.map Tok.cells)[atN L l]? = some (tokC (nxt l)) := by
 rw [List.getElem?_map, h.at.2]
 rfl
theorem Rdy.step (h : Rdy L l) : ((atN L l : Nat) : Int) + 1 = (atN L (l.drop 1) : Nat) := by
 have h1 := h.e.pos
 have h2 := suf_less h.suf
 unfold atN
 rw [List.length_drop]
 omega
theorem Rdy.le (h : Rdy L l) : atN L l ≤ 100000 := by
 have := h.len
 unfold atN
 omega
end
end Go.Proofs.Ytgiacdhffklenaa
end
section
set_option linter.unusedSimpArgs false
set_option linter.unusedVariables false
namespace Go.Proofs.Ytgiacdhffklenaa
open Go.RowKit
theorem any_take {α : Type} (f : α → Bool) {l : List α} {i : Nat} (h : i < l.length) : (l.take (i + 1)).any f = ((l.take i).any f || f l[i]) := by
 rw [List.take_succ_eq_append_getElem h, List.any_append]
 simp only [List.any_cons, List.any_nil, Bool.or_false]
theorem index_str (l : List ByteArray) (s : ByteArray) (hl : l.length ≤ 9223372036854775807) : PureC 76 [strsD l, .str s] (fun r => ∃ i : Int, r = .int i ∧ decide (0 ≤ i) = l.any (fun w => decide (w = s))) := by
 refine pure_enter Try.func76 rfl (by decide) _ Try.ntmps76 (le_ok rfl) (fun w Pr hE => ?_)
 dsimp only [slotsOf, Nat.zero_add, Nat.reduceAdd]
 repeat' (first | refine nx ?_ | (apply aq_block_y; decide) | (apply qr_move; refine r_move ?_) | (apply qr_assign; refine r_assign ?_) | (apply at_cond; first | refine c_t ?_ | refine c_f ?_ | (refine aw_cond rfl (fun hb => ?_) (fun hb => ?_) <;> ((try have hq := dX hb); (try (exfalso; omega))))) | (apply qr_lss; refine r_lss ?_) | (apply qr_eql; refine r_eql ?_) | (apply qr_add; refine r_add ?_) | (apply qr_len; refine r_len ?_) | (apply qr_ix; refine r_ix ?_) | (apply qr_load; refine r_load ?_))
 refine aw_lp (fun N sl ob => ∃ i : Nat, N = l.length - i ∧ i ≤ l.length ∧ (l.take i).any (fun w => decide (w = s)) = false ∧ sl = [(8, .d (.int i)), (7, .d (.int l.length)), (0, .d (strsD l)), (1, .d (.str s))] ∧ ob = []) (⟨0, rfl, Nat.zero_le _, by simp, rfl, rfl⟩) ?_
 rintro N sl ob ⟨i, rfl, hi, hs, rfl, rfl⟩
 by_cases hlt : i < l.length
 ·have hg : (l.map fun s => [D.str s])[i]? = some [D.str l[i]] := by rw [get_map hlt]
  by_cases he : s = l[i]
  ·have q : decide (s = l[i]) = true := decide_eq_true he
   have hany : l.any (fun w => decide (w = s)) = true := by
    rw [List.any_eq_true]
    exact ⟨l[i], List.getElem_mem hlt, by simp [he]⟩
   generalize hx : l[i] = x at q hg
   repeat' (first | (apply at_op (.indexAddr _ _ _); refine al_ixq hg ?_) | refine nx ?_ | (apply aq_block_y; decide) | (apply qr_move; refine r_move ?_) | (apply qr_assign; refine r_assign ?_) | (apply at_cond; first | refine c_t ?_ | refine c_f ?_ | (refine aw_cond rfl (fun hb => ?_) (fun hb => ?_) <;> ((try have hq := dX hb); (try (exfalso; omega))))) | (apply qr_lss; refine r_lss ?_) | (apply qr_eql; refine r_eql ?_) | (apply qr_add; refine r_add ?_) | (apply qr_len; refine r_len ?_) | (apply qr_ix; refine r_ix ?_) | (apply qr_load; refine r_load ?_))
   refine rt1 ?_
   exact ⟨i, rfl, by rw [hany]; exact decide_eq_true (by omega)⟩
  ·have q : decide (s = l[i]) = false := decide_eq_false he
   have hnext : (l.take (i + 1)).any (fun w => decide (w = s)) = false := by
    rw [any_take _ hlt, hs, Bool.false_or]
    exact decide_eq_false (fun h => he h.symm)
   generalize hx : l[i] = x at q hg
   repeat' (first | (apply at_op (.indexAddr _ _ _); refine al_ixq hg ?_) | refine nx ?_ | (apply aq_block_y; decide) | (apply qr_move; refine r_move ?_) | (apply qr_assign; refine r_assign ?_) | (apply at_cond; first | refine c_t ?_ | refine c_f ?_ | (refine aw_cond rfl (fun hb => ?_) (fun hb => ?_) <;> ((try have hq := dX hb); (try (exfalso; omega))))) | (apply qr_lss; refine r_lss ?_) | (apply qr_eql; refine r_eql ?_) | (apply qr_add; refine r_add ?_) | (apply qr_len; refine r_len ?_) | (apply qr_ix; refine r_ix ?_) | (apply qr_load; refine r_load ?_))
   refine aq_rd (⟨i + 1, rfl, by omega, hnext, rfl, rfl⟩) (by omega)
 ·rw [List.take_of_length_le (by omega)] at hs
  repeat' (first | refine nx ?_ | (apply aq_block_y; decide) | (apply qr_move; refine r_move ?_) | (apply qr_assign; refine r_assign ?_) | (apply at_cond; first | refine c_t ?_ | refine c_f ?_ | (refine aw_cond rfl (fun hb => ?_) (fun hb => ?_) <;> ((try have hq := dX hb); (try (exfalso; omega))))) | (apply qr_lss; refine r_lss ?_) | (apply qr_eql; refine r_eql ?_) | (apply qr_add; refine r_add ?_) | (apply qr_len; refine r_len ?_) | (apply qr_ix; refine r_ix ?_) | (apply qr_load; refine r_load ?_))
  refine rt1 ?_
  exact ⟨-1, rfl, by rw [hs]; rfl⟩
theorem contains_str (l : List ByteArray) (s : ByteArray) (hl : l.length ≤ 9223372036854775807) : PureC 61 [strsD l, .str s] (· = .bool (l.any fun w => decide (w = s))) := by
 refine pure_enter Try.func61 rfl (by decide) _ Try.ntmps61 (le_ok rfl) (fun w Pr hE => ?_)
 dsimp only [slotsOf, Nat.zero_add, Nat.reduceAdd]
 repeat' (first | (apply at_call; refine k_call (index_str l s hl) hE ?_; rintro _ ⟨i, rfl, hi⟩) | refine nx ?_ | (apply qr_move; refine r_move ?_) | (apply qr_assign; refine r_assign ?_) | (apply qr_geq; refine r_geq ?_))
 refine rt1 ?_
 rw [hi]
theorem reserved_any : PureC 62 [] (· = strsD reservedL) := by
 refine pure_enter Try.func62 rfl (by decide) _ Try.ntmps62 (le_ok rfl) (fun w Pr hE => ?_)
 dsimp only [slotsOf, Nat.zero_add, Nat.reduceAdd]
 repeat' (first | refine nx ?_ | (apply qr_assign; refine r_assign ?_) | (apply qr_lits; refine r_lits ?_))
 refine rt1 ?_
 rfl
theorem name_any (s : ByteArray) (hs : s.size ≤ 9223372036854775807) : PureC 46 [.str s] (· = .bool (nameV s)) := by
 cases hw : wordB s
 ·have hN : nameV s = false := by simp [nameV, hw]
  rw [hN]
  refine pure_enter Try.func46 rfl (by decide) _ Try.ntmps46 (le_ok rfl) (fun w Pr hE => ?_)
  dsimp only [slotsOf, Nat.zero_add, Nat.reduceAdd]
  repeat' (first | (apply at_call; refine k_call (word_any s hs) hE ?_; rintro _ rfl) | refine nx ?_ | (apply qr_move; refine r_move ?_) | (apply qr_assign; refine r_assign ?_) | (apply at_guard; first | refine g_go ?_ | refine g_nt ?_ | refine g_nf ?_ | refine g_nu ?_ | ((first | refine al_split_t rfl rfl (lt_ok rfl) (fun hb => ?_) (fun hb => ?_) | refine al_split_f rfl rfl (lt_ok rfl) (fun hb => ?_) (fun hb => ?_)) <;> ((try have hq := dX hb); (try (exfalso; omega))))) | (apply qr_pick; refine r_pick ?_) | (apply qr_not; refine r_not ?_))
  refine rt1 ?_
  rfl
 ·have hN : nameV s = !(reservedL.any fun w => decide (w = s)) := by simp [nameV, hw]
  rw [hN]
  refine pure_enter Try.func46 rfl (by decide) _ Try.ntmps46 (le_ok rfl) (fun w Pr hE => ?_)
  dsimp only [slotsOf, Nat.zero_add, Nat.reduceAdd]
  repeat' (first | (apply at_call; refine k_call (word_any s hs) hE ?_; rintro _ rfl) | (apply at_call; refine k_call (reserved_any) hE ?_; rintro _ rfl) | (apply at_call; refine k_call (contains_str reservedL s (by decide)) hE ?_; rintro _ rfl) | refine nx ?_ | (apply qr_move; refine r_move ?_) | (apply qr_assign; refine r_assign ?_) | (apply at_guard; first | refine g_go ?_ | refine g_nt ?_ | refine g_nf ?_ | refine g_nu ?_ | ((first | refine al_split_t rfl rfl (lt_ok rfl) (fun hb => ?_) (fun hb => ?_) | refine al_split_f rfl rfl (lt_ok rfl) (fun hb => ?_) (fun hb => ?_)) <;> ((try have hq := dX hb); (try (exfalso; omega))))) | (apply qr_pick; refine r_pick ?_) | (apply qr_not; refine r_not ?_))
  refine rt1 ?_
  rfl
def Texts (l : List Tok) : Prop := ∀ t ∈ l, t.s.size ≤ 100000
theorem Texts.suf {l t : List Tok} (h : Texts l) (hs : Suf l t) : Texts t := by
 obtain ⟨m, rfl, _⟩ := hs
 exact fun x hx => h x (by simp [hx])
theorem Texts.nxt {l : List Tok} (h : Texts l) : (nxt l).s.size ≤ 100000 := by
 cases l with
 | nil => exact Nat.zero_le _
 | cons x r => exact h x (by simp)
def numP (least most : Int) (l : List Tok) : Rd Int :=
 if (nxt l).k = 1 then (if least ≤ (nxt l).n ∧ (nxt l).n ≤ most then .ok (nxt l).n (l.drop 1) else .bad (nxt l).p 3) else .bad (nxt l).p 12
mutual
def Ex.cells : Ex → List D
 | .mk op n u s a => [.int op, .int n, .int u, .str s, .list 5 (Ex.rows a)]
def Ex.rows : List Ex → List (List D)
 | [] => []
 | x :: r => Ex.cells x :: Ex.rows r
end
abbrev exC (e : Ex) : List D := [.int e.op, .int e.num, .int e.unit, .str e.str, .list 5 (Ex.rows e.args)]
theorem cells_ex (e : Ex) : e.cells = exC e := by
 cases e
 rfl
theorem rows_map : ∀ l : List Ex, Ex.rows l = l.map exC
 | [] => rfl
 | x :: r => by
  rw [List.map_cons, ← rows_map r, ← cells_ex x]
  rfl
theorem rows_len (l : List Ex) : (Ex.rows l).length = l.length := by rw [rows_map, List.length_map]
theorem rows_get {a : List Ex} {i : Nat} (h : i < a.length) : (Ex.rows a)[i]? = some (exC a[i]) := by rw [rows_map, List.getElem?_map, List.getElem?_eq_getElem h]; rfl
end Go.Proofs.Ytgiacdhffklenaa
end
section
namespace Go.Proofs.Ytgiacdhffklenaa
open Go.RowKit
def opsL : List (ByteArray × Int × Int) := [(w_or, 14, 1), (w_and, 13, 2), (w_eq, 11, 4), (w_lt, 10, 4), (w_plus, 4, 5), (w_minus, 5, 5), (w_times, 6, 6), (w_by, 7, 6)]
abbrev opC (q : ByteArray × Int × Int) : List D := [.str q.1, .int q.2.1, .int q.2.2]
def SymI (l : List Tok) (r : Int) : Prop := (r = -1 ∧ symP l = none) ∨ ∃ (i : Nat) (q : ByteArray × Int × Int), i < 8 ∧ r = i ∧ opsL[i]? = some q ∧ symP l = some (q.2.1, q.2.2.toNat) ∧ 1 ≤ q.2.2 ∧ q.2.2 ≤ 6
end Go.Proofs.Ytgiacdhffklenaa
end
section
namespace Go.Proofs.Ytgiacdhffklenaa
open Go.RowKit Go.ChangeShapes Go.WideShapes
def itoaB (n : Int) : ByteArray := ⟨(Lib.itoa n).toArray⟩
section
variable {E : Entry} {sl : Slots} {ob : Objs} {d : Option Nat} {t ty T : TypeId} {p : String} {af : Array Edge} {g : Option (Nat × Bool)} {x : Operand}
end
abbrev L (r : ByteArray) : List UInt8 := r.data.toList
abbrev B (l : List UInt8) : ByteArray := ⟨l.toArray⟩
end Go.Proofs.Ytgiacdhffklenaa
end
