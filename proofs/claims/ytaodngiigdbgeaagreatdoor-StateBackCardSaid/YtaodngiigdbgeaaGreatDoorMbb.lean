/-
  Conditions: none.
-/
import Derived.Test.YtaodngiigdbgeaaGreatDoorMaa
import Derived.Test.YtaodngiigdbgeaaGreatDoorMal
import Derived.Test.YtaodngiigdbgeaaGreatDoorMax
import Derived.Test.YtaodngiigdbgeaaGreatDoorMba
set_option maxHeartbeats 16000000
set_option maxRecDepth 20000
set_option linter.unusedSimpArgs false
set_option linter.unusedVariables false
namespace Go.Proofs.YtaodngiigdbgeaaGreatDoor
section
open Go.RowKit
def numsT (l : List Int) : ByteArray := B (flat8 numW l)
def listT {α : Type} (T : α → ByteArray) (l : List α) : ByteArray := B (L (numW l.length) ++ flat8 T l)
abbrev intsT (l : List Int) : ByteArray := listW intW l
def bitQ (b : Bool) : Int := if b then 1 else 0
def SArc.text (a : SArc) : ByteArray := numsT [a.f, a.t] ++ intsT a.lo ++ intsT a.hi
def SObs.text (o : SObs) : ByteArray := numsT [o.s, o.k]
def seenT (l : List SObs) : ByteArray := listT SObs.text l
def SCar.text (c : SCar) : ByteArray := numsT [c.ow, c.no, c.re, c.en, c.se, c.ch, c.ba, c.cg, c.fu]
def SStop.text (s : SStop) : ByteArray := numsT [s.r, bitQ s.p]
def SLeg.text (l : SLeg) : ByteArray := numsT [l.l, l.h]
def SPlan.text (p : SPlan) : ByteArray := numsT [p.car] ++ listT SStop.text p.st ++ listT SLeg.text p.le ++ intsT p.lv
def SProm.text (p : SProm) : ByteArray := numsT [p.q.me, p.q.f, p.q.t, p.q.ea, p.q.la, p.q.du, p.q.ri, p.q.se, p.q.ch, p.q.ba] ++ intW p.car ++ numsT [p.ve, p.fa, p.sg, p.ow]
def SVer.text (v : SVer) : ByteArray := numsT [v.f] ++ textW v.t
def SShare.text (s : SShare) : ByteArray := numsT [s.x, s.y]
def SCard.text (c : SCard) : ByteArray := numsT [c.me] ++ listT SShare.text c.sh
def SBal.text (b : SBal) : ByteArray := textW b.t ++ numsT [b.f] ++ listT SCard.text b.ca ++ numsT [bitQ b.cl]
def SSt.moneyT (s : SSt) : ByteArray := intsT s.pu ++ numsT [s.po.mo, s.po.pr, s.po.ms, s.po.co, s.po.wi, s.po.to] ++ intsT s.fv
def SSt.text (s : SSt) : ByteArray := numsT [s.ti] ++ listT SArc.text s.ar ++ listT seenT s.se ++ listT SCar.text s.cs ++ listT SPlan.text s.pl ++ (intsT s.dn ++ intsT s.at_) ++ listT SProm.text s.pm ++ s.moneyT ++ listT SVer.text s.ve ++ listT SBal.text s.bl
def SSt.said (s : SSt) : ByteArray := if s.right then s.text else emp
noncomputable def numsS : Nat → ByteArray → Bool → RS (List Int)
 | 0, r, b => ⟨[], r, b⟩
 | k + 1, r, b =>
  let q := numS r b 59 0
  let l := numsS k q.r q.b
  ⟨q.v :: l.v, l.r, l.b⟩
section
variable {α : Type} (one : ByteArray → Bool → RS α)
noncomputable def manyL : Nat → ByteArray → Bool → List α → RS (List α)
 | 0, r, b, out => ⟨out, r, b⟩
 | k + 1, r, b, out => manyL k (one r b).r (one r b).b (out ++ [(one r b).v])
noncomputable def manyS (r : ByteArray) (b : Bool) : RS (List α) :=
 let q := numS r b 59 0
 if (q.r.size : Int) < q.v then ⟨[], q.r, q.b⟩ else manyL one q.v.toNat q.r q.b []
end
noncomputable abbrev intsS (r : ByteArray) (b : Bool) : RS (List Int) := itemsS oneInt r b
noncomputable def arcS (r : ByteArray) (b : Bool) : RS SArc :=
 let q := numsS 2 r b
 let x := intsS q.r q.b
 let y := intsS x.r x.b
 ⟨⟨q.v.getD 0 0, q.v.getD 1 0, x.v, y.v⟩, y.r, y.b⟩
noncomputable def obsS (r : ByteArray) (b : Bool) : RS SObs :=
 let q := numsS 2 r b
 ⟨⟨q.v.getD 0 0, q.v.getD 1 0⟩, q.r, q.b⟩
noncomputable def seenS (r : ByteArray) (b : Bool) : RS (List SObs) := manyS obsS r b
noncomputable def carS (r : ByteArray) (b : Bool) : RS SCar :=
 let q := numsS 9 r b
 ⟨⟨q.v.getD 0 0, q.v.getD 1 0, q.v.getD 2 0, q.v.getD 3 0, q.v.getD 4 0, q.v.getD 5 0, q.v.getD 6 0, q.v.getD 7 0, q.v.getD 8 0⟩, q.r, q.b⟩
noncomputable def stopS (r : ByteArray) (b : Bool) : RS SStop :=
 let q := numsS 1 r b
 let x := numS q.r q.b 59 0
 ⟨⟨q.v.getD 0 0, decide (x.v = 1)⟩, x.r, x.b⟩
noncomputable def legS (r : ByteArray) (b : Bool) : RS SLeg :=
 let q := numsS 2 r b
 ⟨⟨q.v.getD 0 0, q.v.getD 1 0⟩, q.r, q.b⟩
noncomputable def planS (r : ByteArray) (b : Bool) : RS SPlan :=
 let q := numsS 1 r b
 let x := manyS stopS q.r q.b
 let y := manyS legS x.r x.b
 let z := intsS y.r y.b
 ⟨⟨q.v.getD 0 0, x.v, y.v, z.v⟩, z.r, z.b⟩
noncomputable def promS (r : ByteArray) (b : Bool) : RS SProm :=
 let q := numsS 10 r b
 let x := numS q.r q.b 59 (-9223372036854775808)
 let y := numsS 4 x.r x.b
 ⟨⟨⟨q.v.getD 0 0, q.v.getD 1 0, q.v.getD 2 0, q.v.getD 3 0, q.v.getD 4 0, q.v.getD 5 0, q.v.getD 6 0, q.v.getD 7 0, q.v.getD 8 0, q.v.getD 9 0⟩, x.v, y.v.getD 0 0, y.v.getD 1 0, y.v.getD 2 0, y.v.getD 3 0⟩, y.r, y.b⟩
noncomputable def verS (r : ByteArray) (b : Bool) : RS SVer :=
 let q := numsS 1 r b
 let x := textS q.r q.b
 ⟨⟨q.v.getD 0 0, x.v⟩, x.r, x.b⟩
noncomputable def shareS (r : ByteArray) (b : Bool) : RS SShare :=
 let q := numsS 2 r b
 ⟨⟨q.v.getD 0 0, q.v.getD 1 0⟩, q.r, q.b⟩
noncomputable def cardS (r : ByteArray) (b : Bool) : RS SCard :=
 let q := numsS 1 r b
 let x := manyS shareS q.r q.b
 ⟨⟨q.v.getD 0 0, x.v⟩, x.r, x.b⟩
noncomputable def balS (r : ByteArray) (b : Bool) : RS SBal :=
 let x := textS r b
 let q := numsS 1 x.r x.b
 let y := manyS cardS q.r q.b
 let z := numS y.r y.b 59 0
 ⟨⟨x.v, q.v.getD 0 0, y.v, decide (z.v = 1)⟩, z.r, z.b⟩
noncomputable def stateS (t : ByteArray) : RS SSt :=
 let q := numsS 1 t false
 let a := manyS arcS q.r q.b
 let s := manyS seenS a.r a.b
 let c := manyS carS s.r s.b
 let p := manyS planS c.r c.b
 let d := intsS p.r p.b
 let e := intsS d.r d.b
 let m := manyS promS e.r e.b
 let u := intsS m.r m.b
 let o := numsS 6 u.r u.b
 let f := intsS o.r o.b
 let v := manyS verS f.r f.b
 let l := manyS balS v.r v.b
 ⟨⟨q.v.getD 0 0, a.v, s.v, c.v, p.v, d.v, e.v, m.v, u.v, ⟨o.v.getD 0 0, o.v.getD 1 0, o.v.getD 2 0, o.v.getD 3 0, o.v.getD 4 0, o.v.getD 5 0⟩, f.v, v.v, l.v⟩, l.r, l.b⟩
noncomputable def saidQ (t : ByteArray) : Bool := !decide (t = emp) && ((!(stateS t).b && decide ((stateS t).r = emp)) && decide ((stateS t).v.said = t))
def nOk (n : Int) : Prop := 0 ≤ n ∧ n ≤ 9223372036854775807
theorem vT {n : Int} (h : nOk n) : numW n = intW n := by rw [numW, if_neg (by have := h.1; omega)]
abbrev Rds {α : Type} (one : ByteArray → Bool → RS α) (W : α → ByteArray) (ok : α → Prop) : Prop := ∀ x r t, ok x → L r = L (W x) ++ t → one r false = ⟨x, B t, false⟩
theorem aPd {n : Int} {r : ByteArray} {t : List UInt8} (hn : nOk n) (h : L r = L (numW n) ++ t) : numS r false 59 0 = ⟨n, B t, false⟩ := by
 rw [vT hn] at h
 exact aGu h ⟨by have := hn.1; omega, hn.2⟩ hn.1
theorem dO {α : Type} (W : α → ByteArray) (x : α) (l : List α) : flat8 W (x :: l) = L (W x) ++ flat8 W l := by simp [flat8]
theorem iL : ∀ (l : List Int) (r : ByteArray) (t : List UInt8), (∀ n ∈ l, nOk n) → L r = L (numsT l) ++ t → numsS l.length r false = ⟨l, B t, false⟩
 | [], r, t, _, h => by
  have : r = B t := mZ h
  simp [numsS, this]
 | n :: l, r, t, hk, h => by
  have h0 : L r = L (numW n) ++ (L (numsT l) ++ t) := by
   rw [h]
   show flat8 numW (n :: l) ++ t = _ ++ (flat8 numW l ++ t)
   rw [dO, List.append_assoc]
  have h1 := aPd (hk n List.mem_cons_self) h0
  have h2 := iL l (B (L (numsT l) ++ t)) t (fun m hm => hk m (List.mem_cons_of_mem _ hm)) rfl
  simp only [List.length_cons, numsS, h1, h2]
section
variable {α : Type} {one : ByteArray → Bool → RS α} {W : α → ByteArray} {ok : α → Prop}
theorem aEv (H : Rds one W ok) : ∀ (l out : List α) (r : ByteArray) (t : List UInt8), (∀ x ∈ l, ok x) → L r = flat8 W l ++ t → manyL one l.length r false out = ⟨out ++ l, B t, false⟩
 | [], out, r, t, _, h => by
  have : r = B t := mZ h
  simp [manyL, this]
 | x :: l, out, r, t, hk, h => by
  have h1 := H x r (flat8 W l ++ t) (hk x List.mem_cons_self) (by rw [h, dO, List.append_assoc])
  have h2 := aEv H l (out ++ [x]) (B (flat8 W l ++ t)) t (fun y hy => hk y (List.mem_cons_of_mem _ hy)) rfl
  simp only [List.length_cons, manyL, h1, h2, List.append_assoc, List.singleton_append]
theorem wX : ∀ {l : List α}, (∀ x ∈ l, 1 ≤ (W x).size) → l.length ≤ (flat8 W l).length
 | [], _ => Nat.zero_le _
 | x :: l, h => by
  have h1 := wX (l := l) (fun y hy => h y (List.mem_cons_of_mem _ hy))
  have h2 := h x List.mem_cons_self
  rw [dO, List.length_append, jD, List.length_cons]
  omega
theorem aIv (H : Rds one W ok) (l : List α) (r : ByteArray) (t : List UInt8) (hl : l.length ≤ 1000000) (hk : ∀ x ∈ l, ok x) (hs : ∀ x ∈ l, 1 ≤ (W x).size) (h : L r = L (listT W l) ++ t) : manyS one r false = ⟨l, B t, false⟩ := by
 have h0 : L r = L (numW l.length) ++ (flat8 W l ++ t) := by
  rw [h]
  show L (numW l.length) ++ flat8 W l ++ t = _
  rw [List.append_assoc]
 have h1 := aPd (n := l.length) ⟨by omega, by omega⟩ h0
 have h2 := aEv H l [] (B (flat8 W l ++ t)) t hk rfl
 have h3 := wX hs
 have h4 : (B (flat8 W l ++ t)).size = (flat8 W l).length + t.length := by
  rw [← jD, L_B, List.length_append]
 unfold manyS
 simp only [h1]
 rw [if_neg zb, Int.toNat_natCast, h2, List.nil_append]
end
theorem aTj (l : List Int) (r : ByteArray) (t : List UInt8) (hk : ∀ n ∈ l, isInt n) (hl : l.length ≤ 1000000) (h : L r = L (intsT l) ++ t) : intsS r false = ⟨l, B t, false⟩ := aTh hk hl h
end
section
open Go.RowKit
theorem fK {l : List Int} (hk : ∀ n ∈ l, nOk n) (h0 : l ≠ []) : 1 ≤ (numsT l).size := by
 cases l with
 | nil => exact absurd rfl h0
 | cons n l =>
  have h1 : (numsT (n :: l)).size = (flat8 numW (n :: l)).length := by rw [← jD]; rfl
  rw [h1, dO, List.length_append, jD, vT (hk n List.mem_cons_self), ← jD, iN, List.length_append]
  simp
  omega
theorem nK {a b : ByteArray} (h : 1 ≤ a.size) : 1 ≤ (a ++ b).size := by rw [ByteArray.size_append]; omega
theorem aQy (s : ByteArray) : 1 ≤ (textW s).size := by
 rw [← jD, aCy, List.length_append, List.length_cons]
 omega
theorem aOr {α : Type} (W : α → ByteArray) (l : List α) : 1 ≤ (listT W l).size := by
 have h1 : (listT W l).size = (L (numW l.length) ++ flat8 W l).length := by rw [← jD]; rfl
 rw [h1, List.length_append, numW, if_neg zb, iN, List.length_append]
 simp
 omega
theorem pC (b : Bool) : nOk (bitQ b) := by cases b <;> exact ⟨by decide, by decide⟩
theorem aNi (b : Bool) : decide (bitQ b = 1) = b := by cases b <;> rfl
theorem oD (l : List Int) (hk : ∀ n ∈ l, isInt n) (hl : l.length ≤ 1000000) (t : List UInt8) : intsS (B (L (intsT l) ++ t)) false = ⟨l, B t, false⟩ := aTj l _ t hk hl rfl
theorem vU (l : List Int) (hk : ∀ n ∈ l, nOk n) (t : List UInt8) : numsS l.length (B (L (numsT l) ++ t)) false = ⟨l, B t, false⟩ := iL l _ t hk rfl
theorem aVz {n : Int} (hn : isInt n) (t : List UInt8) : numS (B (L (intW n) ++ t)) false 59 (-9223372036854775808) = ⟨n, B t, false⟩ := aGu rfl hn hn.1
theorem aUw {s : ByteArray} (hs : s.size ≤ 1000000000) (t : List UInt8) : textS (B (L (textW s) ++ t)) false = ⟨s, B t, false⟩ := aJs rfl zb
theorem jT {α : Type} {one : ByteArray → Bool → RS α} {W : α → ByteArray} {ok : α → Prop} (H : Rds one W ok) (l : List α) (hl : l.length ≤ 1000000) (hk : ∀ x ∈ l, ok x) (hs : ∀ x ∈ l, 1 ≤ (W x).size) (t : List UInt8) : manyS one (B (L (listT W l) ++ t)) false = ⟨l, B t, false⟩ := aIv H l _ t hl hk hs rfl
structure SArc.wf (a : SArc) : Prop where
 f : nOk a.f
 t : nOk a.t
 lo : ∀ n ∈ a.lo, isInt n
 hi : ∀ n ∈ a.hi, isInt n
 ll : a.lo.length ≤ 1000000
 lh : a.hi.length ≤ 1000000
theorem aVt : Rds arcS SArc.text SArc.wf := by
 rintro ⟨f, t', lo, hi⟩ r t ⟨h1, h2, h3, h5, h4, h6⟩ h
 simp only [SArc.text, kR, List.append_assoc] at h
 have e1 := iL [f, t'] _ _ (by simp_all) h
 have e2 := oD lo h3 h4
 have e3 := oD hi h5 h6
 simp only [List.length_cons, List.length_nil, Nat.zero_add, Nat.reduceAdd] at e1
 unfold arcS
 simp only [e1, e2, e3]
 rfl
theorem aVs {a : SArc} (h : a.wf) : 1 ≤ a.text.size := nK (nK (fK (by have := h.f; have := h.t; simp_all) (by simp)))
structure SObs.wf (a : SObs) : Prop where
 s : nOk a.s
 k : nOk a.k
theorem aWm : Rds obsS SObs.text SObs.wf := by
 rintro ⟨s, k⟩ r t ⟨h1, h2⟩ h
 simp only [SObs.text] at h
 have e1 := iL [s, k] _ _ (by simp_all) h
 simp only [List.length_cons, List.length_nil, Nat.zero_add, Nat.reduceAdd] at e1
 unfold obsS
 simp only [e1]
 rfl
theorem aWl {a : SObs} (h : a.wf) : 1 ≤ a.text.size := fK (by have := h.s; have := h.k; simp_all) (by simp)
def seenOk (l : List SObs) : Prop := l.length ≤ 1000000 ∧ ∀ o ∈ l, o.wf
theorem aUk : Rds seenS seenT seenOk := fun l r t h hr => aIv aWm l r t h.1 h.2 (fun x hx => aWl (h.2 x hx)) hr
structure SCar.wf (c : SCar) : Prop where
 n : ∀ n ∈ [c.ow, c.no, c.re, c.en, c.se, c.ch, c.ba, c.cg, c.fu], nOk n
theorem aVx : Rds carS SCar.text SCar.wf := by
 rintro c r t ⟨h1⟩ h
 have e1 := iL _ _ _ h1 h
 simp only [List.length_cons, List.length_nil, Nat.zero_add, Nat.reduceAdd] at e1
 unfold carS
 simp only [e1]
 rfl
theorem aVw {c : SCar} (h : c.wf) : 1 ≤ c.text.size := fK h.n (by simp)
def SStop.wf (s : SStop) : Prop := nOk s.r
theorem aUu : Rds stopS SStop.text SStop.wf := by
 rintro ⟨s, p⟩ r t h1 h
 have e0 := iL [s, bitQ p] _ _ (by have := pC p; simp [SStop.wf] at h1; simp [h1, this]) h
 simp only [List.length_cons, List.length_nil, Nat.zero_add, Nat.reduceAdd, numsS] at e0
 unfold stopS
 simp only [numsS]
 injection e0 with e1 e2 e3
 simp only [List.cons.injEq, and_true] at e1
 simp only [e1.1, e1.2, e2, e3, aNi, List.getD_cons_zero]
theorem aUt {s : SStop} (h : s.wf) : 1 ≤ s.text.size := fK (by have := pC s.p; simp [SStop.wf] at h; simp [h, this]) (by simp)
structure SLeg.wf (a : SLeg) : Prop where
 l : nOk a.l
 h : nOk a.h
theorem aWe : Rds legS SLeg.text SLeg.wf := by
 rintro ⟨s, k⟩ r t ⟨h1, h2⟩ h
 simp only [SLeg.text] at h
 have e1 := iL [s, k] _ _ (by simp_all) h
 simp only [List.length_cons, List.length_nil, Nat.zero_add, Nat.reduceAdd] at e1
 unfold legS
 simp only [e1]
 rfl
theorem aWd {a : SLeg} (h : a.wf) : 1 ≤ a.text.size := fK (by have := h.l; have := h.h; simp_all) (by simp)
structure SPlan.wf (p : SPlan) : Prop where
 car : nOk p.car
 st : ∀ s ∈ p.st, s.wf
 le : ∀ l ∈ p.le, l.wf
 lv : ∀ n ∈ p.lv, isInt n
 ls : p.st.length ≤ 1000000
 ll : p.le.length ≤ 1000000
 lw : p.lv.length ≤ 1000000
theorem aTx : Rds planS SPlan.text SPlan.wf := by
 rintro ⟨car, st, le, lv⟩ r t ⟨h1, h2, h3, h4, h5, h6, h7⟩ h
 simp only [SPlan.text, kR, List.append_assoc] at h
 have e1 := iL [car] _ _ (by simp_all) h
 have e2 := jT aUu st h5 h2 (fun x hx => aUt (h2 x hx))
 have e3 := jT aWe le h6 h3 (fun x hx => aWd (h3 x hx))
 have e4 := oD lv h4 h7
 simp only [List.length_cons, List.length_nil, Nat.zero_add, Nat.reduceAdd] at e1
 unfold planS
 simp only [e1, e2, e3, e4]
 rfl
theorem aTw {p : SPlan} (h : p.wf) : 1 ≤ p.text.size := nK (nK (nK (fK (by have := h.car; simp_all) (by simp))))
structure SProm.wf (p : SProm) : Prop where
 n : ∀ n ∈ [p.q.me, p.q.f, p.q.t, p.q.ea, p.q.la, p.q.du, p.q.ri, p.q.se, p.q.ch, p.q.ba], nOk n
 car : isInt p.car
 m : ∀ n ∈ [p.ve, p.fa, p.sg, p.ow], nOk n
theorem aUc : Rds promS SProm.text SProm.wf := by
 rintro p r t ⟨h1, h2, h3⟩ h
 simp only [SProm.text, kR, List.append_assoc] at h
 have e1 := iL _ _ _ h1 h
 have e2 := aVz h2
 have e3 := vU _ h3
 simp only [List.length_cons, List.length_nil, Nat.zero_add, Nat.reduceAdd] at e1 e3
 unfold promS
 simp only [e1, e2, e3]
 rfl
theorem aUb {p : SProm} (h : p.wf) : 1 ≤ p.text.size := nK (nK (fK h.n (by simp)))
structure SVer.wf (v : SVer) : Prop where
 f : nOk v.f
 t : v.t.size ≤ 1000000000
theorem aXh : Rds verS SVer.text SVer.wf := by
 rintro ⟨f, s⟩ r t ⟨h1, h2⟩ h
 simp only [SVer.text, kR, List.append_assoc] at h
 have e1 := iL [f] _ _ (by simp_all) h
 have e2 := aUw (s := s) h2
 simp only [List.length_cons, List.length_nil, Nat.zero_add, Nat.reduceAdd] at e1
 unfold verS
 simp only [e1, e2]
 rfl
theorem aXg {v : SVer} (h : v.wf) : 1 ≤ v.text.size := nK (fK (by have := h.f; simp_all) (by simp))
structure SShare.wf (a : SShare) : Prop where
 x : nOk a.x
 y : nOk a.y
theorem aQo : Rds shareS SShare.text SShare.wf := by
 rintro ⟨s, k⟩ r t ⟨h1, h2⟩ h
 simp only [SShare.text] at h
 have e1 := iL [s, k] _ _ (by simp_all) h
 simp only [List.length_cons, List.length_nil, Nat.zero_add, Nat.reduceAdd] at e1
 unfold shareS
 simp only [e1]
 rfl
theorem aQn {a : SShare} (h : a.wf) : 1 ≤ a.text.size := fK (by have := h.x; have := h.y; simp_all) (by simp)
structure SCard.wf (c : SCard) : Prop where
 me : nOk c.me
 sh : ∀ s ∈ c.sh, s.wf
 l : c.sh.length ≤ 1000000
theorem aSj : Rds cardS SCard.text SCard.wf := by
 rintro ⟨me, sh⟩ r t ⟨h1, h2, h3⟩ h
 simp only [SCard.text, kR, List.append_assoc] at h
 have e1 := iL [me] _ _ (by simp_all) h
 have e2 := jT aQo sh h3 h2 (fun x hx => aQn (h2 x hx))
 simp only [List.length_cons, List.length_nil, Nat.zero_add, Nat.reduceAdd] at e1
 unfold cardS
 simp only [e1, e2]
 rfl
theorem aSi {c : SCard} (h : c.wf) : 1 ≤ c.text.size := nK (fK (by have := h.me; simp_all) (by simp))
structure SBal.wf (b : SBal) : Prop where
 t : b.t.size ≤ 1000000000
 f : nOk b.f
 ca : ∀ c ∈ b.ca, c.wf
 l : b.ca.length ≤ 1000000
theorem aVv : Rds balS SBal.text SBal.wf := by
 rintro ⟨s, f, ca, cl⟩ r t ⟨h1, h2, h3, h4⟩ h
 simp only [SBal.text, kR, List.append_assoc] at h
 have e1 := aJs (s := s) h (by have h1 : s.size ≤ 1000000000 := h1; omega)
 have e2 := vU [f] (by simp_all)
 have e3 := jT aSj ca h4 h3 (fun x hx => aSi (h3 x hx))
 have e4 := vU [bitQ cl] (by have := pC cl; simp [this]) t
 simp only [List.length_cons, List.length_nil, Nat.zero_add, Nat.reduceAdd] at e2
 simp only [List.length_cons, List.length_nil, Nat.zero_add, Nat.reduceAdd, numsS] at e4
 injection e4 with e5 e6 e7
 simp only [List.cons.injEq, and_true] at e5
 unfold balS
 simp only [e1, e2, e3]
 simp only [e5, e6, e7, aNi]
 rfl
theorem aVu {b : SBal} (_ : b.wf) : 1 ≤ b.text.size := nK (nK (nK (aQy _)))
structure SSt.wf (s : SSt) : Prop where
 ti : nOk s.ti
 ar : ∀ a ∈ s.ar, a.wf
 se : ∀ l ∈ s.se, seenOk l
 cs : ∀ c ∈ s.cs, c.wf
 pl : ∀ p ∈ s.pl, p.wf
 dn : ∀ n ∈ s.dn, isInt n
 at_ : ∀ n ∈ s.at_, isInt n
 pm : ∀ p ∈ s.pm, p.wf
 pu : ∀ n ∈ s.pu, isInt n
 po : ∀ n ∈ [s.po.mo, s.po.pr, s.po.ms, s.po.co, s.po.wi, s.po.to], nOk n
 fv : ∀ n ∈ s.fv, isInt n
 ve : ∀ v ∈ s.ve, v.wf
 bl : ∀ b ∈ s.bl, b.wf
 ok : s.ok
theorem aQu {s : SSt} (h : s.wf) : stateS s.text = ⟨s, B [], false⟩ := by
 have ho := h.ok
 have hr : L s.text = L s.text := rfl
 conv at hr => rhs; unfold SSt.text SSt.moneyT; simp only [kR, List.append_assoc]
 rw [← List.append_nil (L (listT SBal.text s.bl))] at hr
 have e1 := iL [s.ti] _ _ (by have := h.ti; simp_all) hr
 have e2 := jT aVt s.ar ho.ar h.ar (fun x hx => aVs (h.ar x hx))
 have e3 := jT aUk s.se ho.se h.se (fun x _ => aOr _ x)
 have e4 := jT aVx s.cs ho.cs h.cs (fun x hx => aVw (h.cs x hx))
 have e5 := jT aTx s.pl ho.pl h.pl (fun x hx => aTw (h.pl x hx))
 have e6 := oD s.dn h.dn ho.dn
 have e7 := oD s.at_ h.at_ ho.at_
 have e8 := jT aUc s.pm ho.pm h.pm (fun x hx => aUb (h.pm x hx))
 have e9 := oD s.pu h.pu ho.pu
 have e10 := vU _ h.po
 have e11 := oD s.fv h.fv ho.fv
 have e12 := jT aXh s.ve ho.ve h.ve (fun x hx => aXg (h.ve x hx))
 have e13 := jT aVv s.bl ho.bl h.bl (fun x hx => aVu (h.bl x hx))
 simp only [List.length_cons, List.length_nil, Nat.zero_add, Nat.reduceAdd] at e1 e10
 unfold stateS
 simp only [e1, e2, e3, e4, e5, e6, e7, e8, e9, e10, e11, e12, e13]
 rfl
end
section
open Go.RowKit
theorem fX {a b : Int} {l : List Int} (h : inQ a b l = true) (ha : 0 ≤ a) (hb : b ≤ 9223372036854775807) : ∀ n ∈ l, nOk n := fun n hn => by
 have := eX.1 h n hn
 exact ⟨by omega, by omega⟩
theorem kT {a b : Int} {l : List Int} (h : inQ a b l = true) (ha : -9223372036854775808 ≤ a) (hb : b ≤ 9223372036854775807) : ∀ n ∈ l, isInt n := fun n hn => by
 have := eX.1 h n hn
 exact ⟨by omega, by omega⟩
theorem aGj {a : SArc} (h : a.fine = true) : a.wf ∧ a.lo.length = 24 ∧ a.hi.length = 24 := by
 unfold SArc.fine SArc.right at h
 simp only [Bool.and_eq_true, Bool.not_eq_true', Bool.or_eq_false_iff, decide_eq_false_iff_not, Bool.not_eq_false', decide_eq_true_eq, List.all_eq_true, List.mem_range] at h
 obtain ⟨⟨⟨h1, h2, h3, h4⟩, h5⟩, h6⟩ := h
 have h7 := fX h6 zg zg
 have key : ∀ i < 24, isInt (a.lo.getD i 0) ∧ isInt (a.hi.getD i 0) := fun i hi => by
  have := h5 i hi
  unfold hourQ at this
  simp only [Bool.not_eq_true', Bool.or_eq_false_iff, decide_eq_false_iff_not] at this
  obtain ⟨k1, k2, k3⟩ := this
  exact ⟨⟨by omega, by omega⟩, ⟨by omega, by omega⟩⟩
 have e3 : a.lo.length = 24 := by omega
 have e4 : a.hi.length = 24 := by omega
 refine ⟨⟨h7 _ (by simp), h7 _ (by simp), fun n hn => ?_, fun n hn => ?_, by omega, by omega⟩, e3, e4⟩
 ·obtain ⟨i, hi, rfl⟩ := List.getElem_of_mem hn
  have := (key i zb).1
  rwa [List.getD_eq_getElem?_getD, List.getElem?_eq_getElem hi] at this
 ·obtain ⟨i, hi, rfl⟩ := List.getElem_of_mem hn
  have := (key i zb).2
  rwa [List.getD_eq_getElem?_getD, List.getElem?_eq_getElem hi] at this
theorem aWn {o : SObs} (h : o.right = true) : o.wf := by
 unfold SObs.right at h
 simp only [Bool.and_eq_true] at h
 exact ⟨fX h.1 zg zg _ (by simp), fX h.2 zg zg _ (by simp)⟩
theorem aCt {l : List SObs} (h : seenQ l = true) : seenOk l ∧ l.length ≤ 10000 := by
 unfold seenQ at h
 simp only [Bool.and_eq_true, decide_eq_true_eq, List.all_eq_true] at h
 exact ⟨⟨by omega, fun o ho => aWn (h.2 o ho)⟩, by omega⟩
theorem aGk {c : SCar} (h : c.right = true) : c.wf := by
 unfold SCar.right at h
 simp only [Bool.and_eq_true, decide_eq_true_eq] at h
 obtain ⟨⟨h1, h2, h3⟩, h4, h5, h6, h7⟩ := h
 have q1 := fX h1 zg zg
 have q2 := fX h2 zg zb
 have q4 := fX h4 zg zg
 have q5 := fX h5 zg zg
 have q6 := fX h6 zg zg
 have q0 := eX.1 h2 c.cg (by simp)
 refine ⟨fun n hn => ?_⟩
 simp only [List.mem_cons, List.not_mem_nil, or_false] at hn
 rcases hn with rfl | rfl | rfl | rfl | rfl | rfl | rfl | rfl | rfl
 ·exact q4 _ (by simp)
 ·exact q5 _ (by simp)
 ·exact q6 _ (by simp)
 ·exact q6 _ (by simp)
 ·exact q1 _ (by simp)
 ·exact q1 _ (by simp)
 ·exact q1 _ (by simp)
 ·exact q2 _ (by simp)
 ·exact ⟨by omega, by omega⟩
theorem aWf {l : SLeg} (h : l.right = true) : l.wf := by
 unfold SLeg.right at h
 simp only [Bool.and_eq_true, decide_eq_true_eq] at h
 have q0 := eX.1 h.1 l.l (by simp)
 exact ⟨⟨by omega, by omega⟩, ⟨by omega, by omega⟩⟩
theorem aTy {p : SPlan} {m car : Int} (hm : m ≤ 1000000) (hc : 0 ≤ car ∧ car ≤ 1000000) (h : p.right m car = true) : p.wf ∧ p.st.length ≤ 80 ∧ p.le.length ≤ 80 ∧ p.lv.length ≤ 81 := by
 unfold SPlan.right at h
 simp only [Bool.and_eq_true, decide_eq_true_eq, List.all_eq_true] at h
 obtain ⟨h1, h2, h3, h4, h5, h6, h7⟩ := h
 refine ⟨⟨⟨by omega, by omega⟩, fun s hs => ?_, fun l hl => aWf (h6 l hl), kT h7 zg zg, by omega, by omega, by omega⟩, by omega, by omega, by omega⟩
 have := h5 s hs
 unfold SStop.right at this
 exact fX this zg zb _ (by simp)
theorem aCg {p : SProm} {m cs vs : Int} (hm : m ≤ 1000000) (hc : cs ≤ 1000000) (hv : vs ≤ 1000000) (h : p.right m cs vs = true) : p.wf := by
 unfold SProm.right at h
 simp only [Bool.and_eq_true, decide_eq_true_eq] at h
 obtain ⟨⟨h1, h2, h3, h4, h5⟩, h6, h7, h8, h9⟩ := h
 have q1 := fX h1 zg zb
 have q2 := fX h2 zg zg
 have q3 := fX h3 zg zg
 have q5 := fX h5 zg zg
 have q7 := fX h7 zg zb
 have q8 := fX h8 zg zg
 have q9 := fX h9 zg zg
 refine ⟨fun n hn => ?_, kT h6 zg zb _ (by simp), fun n hn => ?_⟩
 ·simp only [List.mem_cons, List.not_mem_nil, or_false] at hn
  rcases hn with rfl | rfl | rfl | rfl | rfl | rfl | rfl | rfl | rfl | rfl
  ·exact q1 _ (by simp)
  ·exact q2 _ (by simp)
  ·exact q2 _ (by simp)
  ·exact q3 _ (by simp)
  ·exact q3 _ (by simp)
  ·exact q3 _ (by simp)
  ·exact q3 _ (by simp)
  ·exact q5 _ (by simp)
  ·exact q5 _ (by simp)
  ·exact q5 _ (by simp)
 ·simp only [List.mem_cons, List.not_mem_nil, or_false] at hn
  rcases hn with rfl | rfl | rfl | rfl
  ·exact q7 _ (by simp)
  ·exact q8 _ (by simp)
  ·exact q9 _ (by simp)
  ·exact q8 _ (by simp)
theorem aQp {s : SShare} (h : s.right = true) : s.wf := by
 unfold SShare.right at h
 simp only [Bool.and_eq_true] at h
 exact ⟨fX h.1 zg zg _ (by simp), fX h.2 zg zg _ (by simp)⟩
theorem aIj {c : SCard} {m : Int} (hm : m ≤ 1000000) (h : c.right m = true) : c.wf ∧ c.sh.length ≤ 20 := by
 unfold SCard.right at h
 simp only [Bool.and_eq_true, decide_eq_true_eq, List.all_eq_true] at h
 exact ⟨⟨fX h.1 zg zb _ (by simp), fun s hs => aQp (h.2.2 s hs), by omega⟩, by omega⟩
theorem aBj {b : SBal} {m : Int} (hm : m ≤ 1000000) (h : b.right m = true) : b.wf ∧ b.t.size ≤ 4000 ∧ b.ca.length ≤ 4000 ∧ ∀ c ∈ b.ca, c.sh.length ≤ 20 := by
 unfold SBal.right at h
 simp only [Bool.and_eq_true, decide_eq_true_eq, List.all_eq_true] at h
 obtain ⟨h1, h2, h3, h4⟩ := h
 exact ⟨⟨by omega, fX h2 zg zg _ (by simp), fun c hc => (aIj hm (h4 c hc)).1, by omega⟩, by omega, by omega, fun c hc => (aIj hm (h4 c hc)).2⟩
theorem pQ : ∀ {l : List SVer} {last : Int}, versQ last l = true → ∀ v ∈ l, nOk v.f
 | [], _, _, v, hv => by cases hv
 | x :: l, last, h, v, hv => by
  simp only [versQ, Bool.and_eq_true, verNo, Bool.not_eq_true', Bool.or_eq_false_iff, Bool.not_eq_false'] at h
  rcases List.mem_cons.1 hv with rfl | hv
  ·exact fX h.1.2.1 zg zg _ (by simp)
  ·exact pQ h.2 v hv
structure SSt.fair (s : SSt) : Prop where
 ti : timeQ [s.ti] = true
 nar : s.ar.length ≤ 20000
 nse : s.se.length = s.ar.length
 ncs : s.cs.length ≤ 600
 npl : s.pl.length = s.cs.length
 ndn : s.dn.length = s.cs.length
 nat : s.at_.length = s.cs.length
 npm : s.pm.length ≤ 30000
 npu : s.pu.length ≤ 4000
 nfv : s.fv.length = s.pu.length
 nbl : s.bl.length ≤ 200
 pl : ∀ i < s.pl.length, (s.pl.getD i planZ).right s.pm.length i = true ∧ inQ 0 (s.pl.getD i planZ).st.length [s.dn.getD i 0] = true
 at_ : timeQ s.at_ = true
 se : ∀ l ∈ s.se, seenQ l = true
 pu : inQ (-1000000000000000) 1000000000000000 s.pu = true
 fv : inQ (-1099511627776) 1099511627776 s.fv = true
 po : s.po.right = true
 ar : ∀ a ∈ s.ar, a.fine = true
 cs : ∀ c ∈ s.cs, c.right = true
 pm : ∀ p ∈ s.pm, p.right s.pu.length s.cs.length s.ve.length = true
 ve : versQ (-1) s.ve = true
 nve : s.ve.length ≤ 60
 bl : ∀ b ∈ s.bl, b.right s.pu.length = true
theorem cB {s : SSt} : s.right = true ↔ s.fair := by
 unfold SSt.right SSt.odd SSt.plans SSt.rest SSt.money planNo versRight
 simp only [Bool.and_eq_true, Bool.not_eq_true', Bool.or_eq_false_iff, decide_eq_false_iff_not, Bool.not_eq_false', decide_eq_true_eq, List.all_eq_true, List.mem_range]
 constructor
 ·rintro ⟨⟨h1, h2, h3, h4, h5, h6, h7, h8, h9, h10, h11⟩, h12, ⟨h13, h14⟩, ⟨h15, h16, h17⟩, h18, h19, h20, ⟨h21, h22⟩, h23⟩
  exact ⟨h1, by omega, by omega, by omega, by omega, by omega, by omega, by omega, by omega, by omega, by omega, h12, h13, h14, h15, h16, h17, h18, h19, h20, h21, by omega, h23⟩
 ·rintro ⟨h1, h2, h3, h4, h5, h6, h7, h8, h9, h10, h11, h12, h13, h14, h15, h16, h17, h18, h19, h20, h21, h22, h23⟩
  exact ⟨⟨h1, by omega, by omega, by omega, by omega, by omega, by omega, by omega, by omega, by omega, by omega⟩, h12, ⟨h13, h14⟩, ⟨h15, h16, h17⟩, h18, h19, h20, ⟨h21, by omega⟩, h23⟩
theorem SSt.fair.plan {s : SSt} (h : s.fair) {p : SPlan} (hp : p ∈ s.pl) : p.wf ∧ p.st.length ≤ 80 ∧ p.le.length ≤ 80 ∧ p.lv.length ≤ 81 := by
 obtain ⟨i, hi, rfl⟩ := List.getElem_of_mem hp
 have h1 := (h.pl i hi).1
 rw [List.getD_eq_getElem?_getD, List.getElem?_eq_getElem hi] at h1
 have := h.npm
 have := h.npl
 have := h.ncs
 exact aTy zb ⟨by omega, by omega⟩ h1
theorem SSt.fair.done {s : SSt} (h : s.fair) : ∀ n ∈ s.dn, isInt n := fun n hn => by
 obtain ⟨i, hi, rfl⟩ := List.getElem_of_mem hn
 have h0 := h.npl
 have h00 := h.ndn
 have h1 := (h.pl i zb).2
 have h2 := eX.1 h1 (s.dn.getD i 0) (by simp)
 have h3 : s.dn.getD i 0 = s.dn[i] := by rw [List.getD_eq_getElem?_getD, List.getElem?_eq_getElem hi]; rfl
 have h4 := (h.plan (fU (l := s.pl) (i := i) (z := planZ) zb)).2.1
 rw [h3] at h2
 exact ⟨by omega, by omega⟩
theorem SSt.fair.pool {s : SSt} (h : s.fair) : ∀ n ∈ [s.po.mo, s.po.pr, s.po.ms, s.po.co, s.po.wi, s.po.to], nOk n := by
 have h1 := h.po
 unfold SPool.right at h1
 simp only [Bool.and_eq_true] at h1
 obtain ⟨k1, k2, k3, k4⟩ := h1
 have q1 := fX k1 zg zg
 have q2 := fX k2 zg zg
 have q3 := fX k3 zg zg
 have q4 := fX k4 zg zg
 intro n hn
 simp only [List.mem_cons, List.not_mem_nil, or_false] at hn
 rcases hn with rfl | rfl | rfl | rfl | rfl | rfl
 ·exact q1 _ (by simp)
 ·exact q1 _ (by simp)
 ·exact q2 _ (by simp)
 ·exact q3 _ (by simp)
 ·exact q4 _ (by simp)
 ·exact q1 _ (by simp)
theorem SSt.fair.wf {s : SSt} (h : s.fair) (ho : s.ok) : s.wf := by
 have h1 := h.npm
 have h2 := h.npu
 have h3 := h.ncs
 have h4 := h.nve
 exact ⟨fX h.ti zg zg _ (by simp), fun a ha => (aGj (h.ar a ha)).1, fun l hl => (aCt (h.se l hl)).1, fun c hc => aGk (h.cs c hc), fun p hp => (h.plan hp).1, h.done, kT h.at_ zg zg, fun p hp => aCg zb zb zb (h.pm p hp), kT h.pu zg zg, h.pool, kT h.fv zg zg, fun v hv => ⟨pQ h.ve v hv, by have := ho.ves v hv; omega⟩, fun b hb => (aBj zb (h.bl b hb)).1, ho⟩
theorem pE {α : Type} {W : α → ByteArray} {M : Nat} : ∀ {l : List α}, (∀ x ∈ l, (W x).size ≤ M) → (flat8 W l).length ≤ M * l.length
 | [], _ => Nat.zero_le _
 | x :: l, h => by
  have h1 := pE (l := l) (fun y hy => h y (List.mem_cons_of_mem _ hy))
  have h2 := h x List.mem_cons_self
  rw [dO, List.length_append, jD, List.length_cons, Nat.mul_succ]
  omega
theorem fW {n : Int} (h : nOk n) : (numW n).size ≤ 21 := by
 rw [vT h]
 exact rX ⟨by have := h.1; omega, h.2⟩
theorem bX {l : List Int} (hk : ∀ n ∈ l, nOk n) : (numsT l).size ≤ 21 * l.length := by
 have h1 : (numsT l).size = (flat8 numW l).length := by rw [← jD]; rfl
 rw [h1]
 exact pE (fun n hn => fW (hk n hn))
theorem cZ {α : Type} {W : α → ByteArray} {M : Nat} {l : List α} (hl : l.length ≤ 1000000) (h : ∀ x ∈ l, (W x).size ≤ M) : (listT W l).size ≤ 21 + M * l.length := by
 have h1 : (listT W l).size = (L (numW l.length) ++ flat8 W l).length := by rw [← jD]; rfl
 have h2 := pE h
 have h3 := fW (n := (l.length : Int)) ⟨by omega, by omega⟩
 rw [h1, List.length_append, jD]
 omega
theorem dG {l : List Int} (hl : l.length ≤ 1000000) (hk : ∀ n ∈ l, isInt n) : (intsT l).size ≤ 22 + 21 * l.length := by
 have h1 := mN (n := (l.length : Int)) (by unfold isInt; omega)
 have h2 := pE (W := intW) (fun n hn => rX (hk n hn))
 rw [← jD, vQ]
 simp only [List.length_append, List.length_cons, List.length_nil]
 omega
theorem nX {s : ByteArray} (h : s.size ≤ 1000000) : (textW s).size ≤ s.size + 22 := by
 have h1 := mN (n := (s.size : Int)) (by unfold isInt; omega)
 rw [← jD, aCy]
 simp only [List.length_append, List.length_cons, List.length_nil, jD]
 omega
theorem aNc {a : SArc} (h : a.fine = true) : a.text.size ≤ 10000000 := by
 obtain ⟨h1, h2, h3⟩ := aGj h
 have k1 := bX (l := [a.f, a.t]) (by have := h1.f; have := h1.t; simp_all)
 have k2 := dG h1.ll h1.lo
 have k3 := dG h1.lh h1.hi
 simp only [List.length_cons, List.length_nil] at k1
 simp only [SArc.text, ByteArray.size_append]
 omega
theorem aHe {o : SObs} (h : o.wf) : o.text.size ≤ 42 := bX (l := [o.s, o.k]) (by have := h.s; have := h.k; simp_all)
theorem aJp {l : List SObs} (h : seenQ l = true) : (seenT l).size ≤ 10000000 := by
 obtain ⟨h1, h2⟩ := aCt h
 have k1 := cZ (W := SObs.text) h1.1 (fun x hx => aHe (h1.2 x hx))
 have : seenT l = listT SObs.text l := rfl
 rw [this]
 omega
theorem aNm {c : SCar} (h : c.right = true) : c.text.size ≤ 10000000 := by
 have k1 := bX (aGk h).n
 simp only [List.length_cons, List.length_nil] at k1
 unfold SCar.text
 omega
theorem wA {s : SStop} (h : s.wf) : s.text.size ≤ 42 := bX (l := [s.r, bitQ s.p]) (by have := pC s.p; simp [SStop.wf] at h; simp [h, this])
theorem aBs {l : SLeg} (h : l.wf) : l.text.size ≤ 42 := bX (l := [l.l, l.h]) (by have := h.l; have := h.h; simp_all)
theorem aJf {p : SPlan} (h : p.wf ∧ p.st.length ≤ 80 ∧ p.le.length ≤ 80 ∧ p.lv.length ≤ 81) : p.text.size ≤ 10000000 := by
 obtain ⟨h, h1, h2, h3⟩ := h
 have k1 := bX (l := [p.car]) (by have := h.car; simp_all)
 have k2 := cZ (W := SStop.text) h.ls (fun x hx => wA (h.st x hx))
 have k3 := cZ (W := SLeg.text) h.ll (fun x hx => aBs (h.le x hx))
 have k4 := dG h.lw h.lv
 simp only [List.length_cons, List.length_nil] at k1
 simp only [SPlan.text, ByteArray.size_append]
 omega
theorem aJg {p : SProm} (h : p.wf) : p.text.size ≤ 10000000 := by
 have k1 := bX h.n
 have k2 := rX h.car
 have k3 := bX h.m
 simp only [List.length_cons, List.length_nil] at k1 k3
 simp only [SProm.text, ByteArray.size_append]
 omega
theorem aRf {v : SVer} (h : nOk v.f) (ht : v.t.size ≤ 1000000) : v.text.size ≤ 10000000 := by
 have k1 := bX (l := [v.f]) (by simp_all)
 have k2 := nX ht
 simp only [List.length_cons, List.length_nil] at k1
 simp only [SVer.text, ByteArray.size_append]
 omega
theorem yG {s : SShare} (h : s.wf) : s.text.size ≤ 42 := bX (l := [s.x, s.y]) (by have := h.x; have := h.y; simp_all)
theorem vM {c : SCard} (h : c.wf) (hl : c.sh.length ≤ 20) : c.text.size ≤ 900 := by
 have k1 := bX (l := [c.me]) (by have := h.me; simp_all)
 have k2 := cZ (W := SShare.text) h.l (fun x hx => yG (h.sh x hx))
 simp only [List.length_cons, List.length_nil] at k1
 simp only [SCard.text, ByteArray.size_append]
 omega
theorem aNh {b : SBal} (h : b.wf ∧ b.t.size ≤ 4000 ∧ b.ca.length ≤ 4000 ∧ ∀ c ∈ b.ca, c.sh.length ≤ 20) : b.text.size ≤ 10000000 := by
 obtain ⟨h, h1, h2, h3⟩ := h
 have k1 := bX (l := [b.f]) (by have := h.f; simp_all)
 have k2 := nX (s := b.t) zb
 have k3 := cZ (W := SCard.text) h.l (fun x hx => vM (h.ca x hx) (h3 x hx))
 have k4 := bX (l := [bitQ b.cl]) (by have := pC b.cl; simp_all)
 simp only [List.length_cons, List.length_nil] at k1 k4
 simp only [SBal.text, ByteArray.size_append]
 omega
theorem aUj {s : SSt} (h : s.fair) : 1 ≤ s.text.size := by
 unfold SSt.text
 iterate 9 refine nK ?_
 exact fK (fX h.ti zg zg) (by simp)
theorem kH {s : SSt} (h : s.fair) : s.said = s.text := by rw [SSt.said, if_pos (cB.2 h)]
theorem jY {s : SSt} : s.said = emp ↔ s.right = false := by
 constructor
 ·intro h
  cases hr : s.right with
  | false => rfl
  | true =>
   have h1 := aUj (cB.1 hr)
   rw [← kH (cB.1 hr), h] at h1
   exact absurd h1 zg
 ·intro h
  rw [SSt.said, h]
  rfl
theorem rF {s : SSt} (h : s.right = true) (ho : s.ok) : stateS s.said = ⟨s, emp, false⟩ := by
 rw [kH (cB.1 h)]
 exact aQu ((cB.1 h).wf ho)
theorem yE {s : SSt} (h : s.right = true) (ho : s.ok) : saidQ s.said = true ∧ (stateS s.said).v = s := by
 unfold saidQ
 rw [rF h ho]
 refine ⟨?_, rfl⟩
 have : ¬ s.said = emp := fun e => by rw [jY.1 e] at h; cases h
 simp [this]
end
section
open Go.RowKit
def SSt.sum (s : SSt) : Int := if s.right then s.po.mo + s.pu.sum else 0
theorem aQv {l : List Int} {i : Nat} (h : i < l.length) : (l.take (i + 1)).sum = (l.take i).sum + l.getD i 0 := by
 rw [List.take_succ_eq_append_getElem h, List.sum_append, List.getD_eq_getElem?_getD, List.getElem?_eq_getElem h]
 simp
theorem aMh {l : List Int} {b : Int} (hb : 0 ≤ b) (h : ∀ n ∈ l, -b ≤ n ∧ n ≤ b) : -(b * l.length) ≤ l.sum ∧ l.sum ≤ b * l.length := by
 induction l with
 | nil => simp
 | cons x r ih =>
  have h1 := h x (by simp)
  have h2 := ih fun n hn => h n (by simp [hn])
  simp only [List.sum_cons, List.length_cons]
  have h3 : b * ((r.length + 1 : Nat) : Int) = b * r.length + b := by rw [Int.natCast_add, Int.mul_add]; simp
  omega
theorem jC (s : SSt) (ho : s.ok) : PureC 19 [.agg s.c] (· = .int s.sum) := by
 have c1 := cW s ho
 have m8 : (s.pu.map fun n => [D.int n]).length = s.pu.length := List.length_map ..
 unfold SSt.sum
 cases hr : s.right
 ·rw [hr] at c1
  refine aE Tryz.func19 rfl zg _ Tryz.ntmps19 (aC rfl) (fun w Pr hE => ?_)
  dsimp only [slotsOf, Nat.zero_add, Nat.reduceAdd]
  repeat' (first | refine kQ (c1) hE ?_ | refine vx ?_ | refine xh ?_ | refine xk ?_ | (refine sQ ?_ ?_ <;> intro hb hq <;> try omega))
  refine rt1 ?_
  rfl
 rw [hr] at c1
 rw [if_pos rfl]
 have hm : s.money = true := by
  unfold SSt.right SSt.rest at hr
  simp only [Bool.and_eq_true] at hr
  exact hr.2.2.2.1
 unfold SSt.money at hm
 simp only [Bool.and_eq_true] at hm
 have hb := eX.1 hm.1
 have hk := ho.pu
 have hp : 0 ≤ s.po.mo ∧ s.po.mo ≤ 1000000000000000 := by
  have h := hm.2.2
  unfold SPool.right at h
  simp only [Bool.and_eq_true] at h
  exact eX.1 h.1 _ (by simp)
 have h4 : s.pu.length ≤ 4000 := by
  unfold SSt.right SSt.odd at hr
  simp only [Bool.and_eq_true, Bool.not_eq_true', Bool.or_eq_false_iff, decide_eq_false_iff_not] at hr
  have := hr.1.2.2.2.2.2.2.2.2.1
  omega
 have hs : ∀ i, i ≤ s.pu.length → -4000000000000000000 ≤ (s.pu.take i).sum ∧ (s.pu.take i).sum ≤ 4000000000000000000 := fun i hi => by
  have h := aMh (l := s.pu.take i) (b := 1000000000000000) zg (fun n hn => hb n (List.mem_of_mem_take hn))
  rw [List.length_take] at h
  omega
 clear hr hm
 refine aE Tryz.func19 rfl zg _ Tryz.ntmps19 (aC rfl) (fun w Pr hE => ?_)
 dsimp only [slotsOf, Nat.zero_add, Nat.reduceAdd]
 repeat' (first | refine kQ (c1) hE ?_ | refine vk ?_ | refine xe ?_ | refine xp ?_ | (refine sQ ?_ ?_ <;> intro hb hq <;> try omega))
 rw [show s.po.mo = s.po.mo + (s.pu.take 0).sum by simp]
 refine bB (fun N sl ob => ∃ i : Nat, N = s.pu.length - i ∧ i ≤ s.pu.length ∧ sl = [(15, .d (.int i)), (14, .d (.int s.pu.length)), (13, .d (intsL s.pu)), (3, .d (.int (s.po.mo + (s.pu.take i).sum)))] ∧ ob = []) (⟨0, rfl, Nat.zero_le _, rfl, rfl⟩) ?_
 rintro N sl ob ⟨i, rfl, hi, rfl, rfl⟩
 by_cases hlt : i < s.pu.length
 ·have hg := jO hlt
  have h1 := hs i hi
  have h2 := hs (i + 1) hlt
  have he := aQv hlt
  have qi : decide ((i : Int) < (s.pu.length : Int)) = true := decide_eq_true zb
  rw [he] at h2
  have he2 : s.po.mo + (s.pu.take i).sum + s.pu.getD i 0 = s.po.mo + (s.pu.take (i + 1)).sum := by rw [he, Int.add_assoc]
  generalize s.pu.getD i 0 = x at *
  repeat' (first | (apply aB (.indexAddr _ _ _); refine aS hg ?_) | refine va ?_ | refine vb ?_ | refine vg ?_ | (refine sQ ?_ ?_ <;> intro hb hq <;> try omega))
  rw [he2]
  repeat' (first | refine qn ?_ | (refine sQ ?_ ?_ <;> intro hb hq <;> try omega))
  refine bK (⟨i + 1, rfl, by omega, rfl, rfl⟩) zb
 ·obtain rfl : i = s.pu.length := by omega
  rw [List.take_length]
  have qi : decide ((s.pu.length : Int) < (s.pu.length : Int)) = false := decide_eq_false zb
  repeat' (first | refine qf ?_ | (refine sQ ?_ ?_ <;> intro hb hq <;> try omega))
  refine rt1 ?_
  simp
end
end Go.Proofs.YtaodngiigdbgeaaGreatDoor
