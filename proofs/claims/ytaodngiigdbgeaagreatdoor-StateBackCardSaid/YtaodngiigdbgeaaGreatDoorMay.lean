/-
  Conditions: none.
-/
import Derived.Lib.AppendIntMem
import Derived.Lib.AtoiAllCases
import Derived.Test.YtaodngiigdbgeaaGreatDoorMaa
import Derived.Test.YtaodngiigdbgeaaGreatDoorMag
import Derived.Test.YtaodngiigdbgeaaGreatDoorMah
import Derived.Test.YtaodngiigdbgeaaGreatDoorMal
import Derived.Test.YtaodngiigdbgeaaGreatDoorMap
import Derived.Test.YtaodngiigdbgeaaGreatDoorMas
set_option maxHeartbeats 16000000
set_option maxRecDepth 20000
set_option linter.unusedSimpArgs false
set_option linter.unusedVariables false
namespace Go.Proofs.YtaodngiigdbgeaaGreatDoor
section
open Go.RowKit
theorem iT (s : ByteArray) (c : Int) : PureC 228 [.str s, .val (.int .u8 c)] (· = .int (Lib.indexByte s.data.toList c.toNat.toUInt8)) := by
 refine qC (us := [.string s, .int .u8 c]) ⟨_, Tryz.func228, by decide, rfl⟩ (fun w Pr _ _ => ?_)
 refine (Tryz.strings_IndexByte s c w).mono fun e w' ⟨he, hw⟩ => ?_
 subst hw
 exact ⟨_, _, he, rfl, .val _, Below.refl _ _⟩
theorem vY {w : World} {Pr : Prot} {u v : Value} {x y : D} (hu : RepD w Pr u x) (hv : RepD w Pr v y) : RepD w Pr (.tuple #[u, v]) (.tup [x, y]) := by
 refine .tup [u, v] _ rfl (fun i v d h1 h2 => ?_)
 match i with
 | 0 => cases h1; cases h2; exact hu
 | 1 => cases h1; cases h2; exact hv
theorem qO (s p : ByteArray) : PureC 230 [.str s, .str p] (· = .tup [.str ⟨(Lib.trimPrefix s.data.toList p.data.toList).toArray⟩, .bool (Lib.hasPrefix s.data.toList p.data.toList)]) := by
 refine qC (us := [.string s, .string p]) ⟨_, Tryz.func230, by decide, rfl⟩ (fun w Pr _ _ => ?_)
 refine (Tryz.strings_CutPrefix s p w).mono fun e w' ⟨he, hw⟩ => ?_
 subst hw
 exact ⟨_, _, he, rfl, vY (.val _) (.val _), Below.refl _ _⟩
def AtoiD (s : ByteArray) (r : D) : Prop := match Lib.atoiAll s.data.toList with
 | .ok v => r = .tup [.int v, .val .nilIface]
 | _ => ∃ n, r = .tup [.int n, .err]
theorem aIl {w : World} {Pr : Prot} (hE : EnvOk w Pr) {g : Nat} (hm : (g, [D.err]) ∈ laidG) : ∃ ev, w.cell? ⟨g, 0, none⟩ = some ev ∧ (ev = .nilIface ∨ ∃ te pe, ev = .iface te pe) := by
 obtain ⟨u, h1, _, h3⟩ := (hE g _ hm).1 0 .err rfl
 cases h3
 exact ⟨_, h1, .inr ⟨_, _, rfl⟩⟩
theorem aDs (s : ByteArray) (hs : s.size ≤ 281474976710656) : PureC 229 [.str s] (AtoiD s) := by
 refine qC (us := [.string s]) ⟨_, Tryz.func229, by decide, rfl⟩ (fun w Pr _ hE => ?_)
 cases h : Lib.atoiAll s.data.toList with
 | ok v =>
  refine (Tryz.strconv_Atoi_ok s zb v h w).mono fun e w' ⟨he, hw⟩ => ?_
  refine ⟨_, _, he, by unfold AtoiD; rw [h], vY (.val _) (.val _), ?_⟩
  rcases hw with rfl | ⟨t, rfl⟩
  ·exact Below.refl _ _
  ·exact Lib.bytesWorld_below _ _ _
 | range =>
  obtain ⟨ev, h1, h2⟩ := aIl hE (g := 3) jh
  refine (Tryz.strconv_Atoi_range s hs h ev w h1 h2).mono fun e w' ⟨N, he, _, _, hb⟩ => ?_
  exact ⟨_, _, he, by unfold AtoiD; rw [h]; exact ⟨_, rfl⟩, vY (.val _) (.err _ _), hb⟩
 | _ =>
  obtain ⟨ev, h1, h2⟩ := aIl hE (g := 2) jh
  refine (Tryz.strconv_Atoi_syntax s hs (fun v hv => by rw [hv] at h; cases h) (fun hv => by rw [hv] at h; cases h) ev w h1 h2).mono fun e w' ⟨N, he, _, _, hb⟩ => ?_
  exact ⟨_, _, he, by unfold AtoiD; rw [h]; exact ⟨_, rfl⟩, vY (.val _) (.err _ _), hb⟩
theorem aSt : ∃ ms, Tryz.prog.underlying 246 = some (.interface ms) := ⟨_, Tryz.underlying246⟩
section
variable {E : Entry} {sl : Slots} {ob : Objs} {d : Option Nat} {t ty T : TypeId} {p : String} {af : Array Edge} {g : Option (Nat × Bool)} {x : Operand}
theorem aRs (hx : ev sl x = .d .err) (ht : ∃ ms, Tryz.prog.underlying t = some (.interface ms)) : Y E ⟨d, .binOp .neq t x (.const .nilIface) ty, T, p, af, g⟩ sl ob (.d (.val (.bool true))) := fun a w Pr β κ h => by
 have hv := iA h hx
 generalize hav : a.eval x = v at hv
 cases hv with
 | err te u =>
  obtain ⟨ms, ht⟩ := ht
  have hc : a.eval (.const Value.nilIface) = Value.nilIface := rfl
  refine ⟨_, .d _ _ (.val _), fun w' _ => ?_⟩
  have h1 : (Op.equalIn Op.maxDepth t (.iface te u) .nilIface).run Tryz.prog w' = .ok false w' := by
   have : ∀ d : Nat, (Op.equalIn (d + 1) t (.iface te u) .nilIface).run Tryz.prog w' = .ok false w' := fun d => by simp [Op.equalIn, run_underlying ht]
   exact this 9999
  simp [execOp, hav, hc, eqGuard_at_iface, binOp, Op.equal, h1]
theorem yQ (hx : ev sl x = .d (.val .nilIface)) (ht : ∃ ms, Tryz.prog.underlying t = some (.interface ms)) : Y E ⟨d, .binOp .neq t x (.const .nilIface) ty, T, p, af, g⟩ sl ob (.d (.val (.bool false))) := fun a w Pr β κ h => by
 obtain ⟨ms, ht⟩ := ht
 have hc : a.eval (.const Value.nilIface) = Value.nilIface := rfl
 refine ⟨_, .d _ _ (.val _), fun w' _ => ?_⟩
 have h1 : (Op.equalIn Op.maxDepth t .nilIface .nilIface).run Tryz.prog w' = .ok true w' := by
  have : ∀ d : Nat, (Op.equalIn (d + 1) t .nilIface .nilIface).run Tryz.prog w' = .ok true w' := fun d => by simp [Op.equalIn, run_underlying ht]
  exact this 9999
 simp [execOp, bT h hx, hc, eqGuard_nil_constR, binOp, Op.equal, h1]
end
end
section
open Go.RowKit
abbrev rd (r : ByteArray) (b : Bool) : Objs := [(1000, .box 206 [.d (.str r), .d (.bool b)])]
def emp : ByteArray := ⟨#[]⟩
theorem nM (r : ByteArray) (b : Bool) : ObC 169 [.box 1000 0] (rd r b) [] (fun x o => x = .tup [] ∧ o = rd emp true) := by
 refine aI Tryz.func169 rfl zg _ Tryz.ntmps169 (aC rfl) rfl (fun w Pr β κ hE => ?_)
 dsimp only [slotsV, Nat.zero_add, Nat.reduceAdd]
 repeat' (first | refine vh ?_ | refine vo ?_ | (apply dH; refine eO ?_))
 try refine qW ?_
 refine xP (rd emp true) (by rfl) (⟨rfl, rfl⟩) sb okx
theorem dV (r : ByteArray) (b : Bool) : ObC 159 [.box 1000 0] (rd r b) [] (fun x o => x = .d (.int r.size) ∧ o = rd r b) := by
 refine aI Tryz.func159 rfl zg _ Tryz.ntmps159 (aC rfl) rfl (fun w Pr β κ hE => ?_)
 dsimp only [slotsV, Nat.zero_add, Nat.reduceAdd]
 repeat' (first | refine qo ?_ | refine vq ?_ | (apply jA; refine lV ?_) | (apply nV; refine qE ?_))
 refine aP (rd r b) (by rfl) rv (⟨rfl, rfl⟩) sb okx
theorem aAy (s : ByteArray) : ObC 27 [.d (.str s)] [] [5] (fun x o => x = .box 5 0 ∧ o = [(5, .box 206 [.d (.str s), .d (.bool false)])]) := by
 refine aI Tryz.func27 rfl zg _ Tryz.ntmps27 (aC rfl) rfl (fun w Pr β κ hE => ?_)
 dsimp only [slotsV, Nat.zero_add, Nat.reduceAdd]
 repeat' (first | refine vj ?_ | refine vv ?_ | (apply fD; refine gF ?_))
 refine aP ([(5, .box 206 [.d (.str s), .d (.bool false)])]) (by rfl) rv (⟨rfl, rfl⟩) sb okx
theorem aDu (r : ByteArray) (b : Bool) : ObC 45 [.box 1000 0] (rd r b) [] (fun x o => x = .d (.bool (!b && decide (r = emp))) ∧ o = rd r b) := by
 refine aI Tryz.func45 rfl zg _ Tryz.ntmps45 (aC rfl) rfl (fun w Pr β κ hE => ?_)
 dsimp only [slotsV, Nat.zero_add, Nat.reduceAdd]
 cases b
 ·skip
  repeat' (first | refine vj ?_ | refine vm ?_ | refine vq ?_ | refine vr ?_ | (refine wQ ?_ ?_ <;> intro hb hq <;> try omega) | (apply nV; refine qE ?_))
  refine aP (rd r false) (by rfl) rv (⟨rfl, rfl⟩) sb okx
 ·skip
  repeat' (first | refine vj ?_ | refine vm ?_ | refine vq ?_ | refine vr ?_ | (refine wQ ?_ ?_ <;> intro hb hq <;> try omega) | (apply nV; refine qE ?_))
  refine aP (rd r true) (by rfl) rv (⟨rfl, rfl⟩) sb okx
def headV (r : ByteArray) : ByteArray := r.extract 0 (min r.size 21)
def atV (r : ByteArray) (c : UInt8) : Int := Lib.indexByte (headV r).data.toList c
abbrev numV (r : ByteArray) (c : UInt8) : ByteArray := (headV r).extract 0 (atV r c).toNat
def numIs (r : ByteArray) (c : UInt8) (least n : Int) : Prop := 0 ≤ atV r c ∧ Lib.atoiAll (numV r c).data.toList = .ok n ∧ itoaB n = numV r c ∧ least ≤ n
def behind (r : ByteArray) (c : UInt8) : ByteArray := r.extract (atV r c + 1).toNat r.size
def NumP (r : ByteArray) (b : Bool) (c : UInt8) (least : Int) (x : V) (o : Objs) : Prop :=
 (∃ n, numIs r c least n ∧ x = .d (.int n) ∧ o = rd (behind r c) b) ∨ ((∀ n, ¬ numIs r c least n) ∧ x = .d (.int 0) ∧ o = rd emp true)
theorem aBp (l : List UInt8) (c : UInt8) : -1 ≤ Lib.indexByte l c ∧ Lib.indexByte l c < l.length := by
 induction l with
 | nil => simp [Lib.indexByte]
 | cons b l ih =>
  simp only [Lib.indexByte, List.length_cons]
  split
  ·omega
  ·split
   ·omega
   ·omega
theorem xE (r : ByteArray) : (headV r).size = min r.size 21 := by simp [headV]
theorem aNe (r : ByteArray) (c : UInt8) : -1 ≤ atV r c ∧ atV r c < min r.size 21 := by
 have h1 := aBp (headV r).data.toList c
 have h2 := xE r
 unfold atV
 have h3 : (headV r).data.toList.length = (headV r).size := by simp
 omega
theorem wO {l : List UInt8} {n : Int} (h : Lib.atoiAll l = .ok n) : -9223372036854775808 ≤ n ∧ n ≤ 9223372036854775807 := by
 unfold Lib.atoiAll at h
 split at h
 ·cases h
 ·dsimp only at h
  split at h
  ·cases h
  ·cases h
  ·split at h
   ·cases h
   ·split at h
    ·cases h
    ·rename_i h1 h2
     injection h with h
     subst h
     split <;> rename_i h3
     ·simp only [h3, true_and] at h2
      omega
     ·simp only [h3, not_false_eq_true, true_and] at h1
      omega
attribute [local irreducible] headV atV itoaB Lib.atoiAll behind
theorem aGd (r : ByteArray) (b : Bool) (c : UInt8) (least : Int) (hr : r.size ≤ 1000000000) : ObC 168 [.box 1000 0, .d (.val (.int .u8 c.toNat)), .d (.int least)] (rd r b) [] (NumP r b c least) := by
 refine aI Tryz.func168 rfl zg _ Tryz.ntmps168 (aC rfl) rfl (fun w Pr β κ hE => ?_)
 dsimp only [slotsV, Nat.zero_add, Nat.reduceAdd]
 repeat' (first | refine nk ?_ | refine qs ?_ | refine vo ?_ | refine vz ?_ | refine xj ?_ | refine xo ?_ | (refine sQ ?_ ?_ <;> intro hb hq <;> try omega) | (refine wQ ?_ ?_ <;> intro hb hq <;> try omega))
 refine dF [(0, true), (1, true), (2, true), (3, true), (4, true), (5, true), (6, true), (7, true), (8, true), (9, true), (10, true)] [11] zp zp zp zg ?_
 simp only [planned, tailed, List.filterMap_cons, List.filterMap_nil, List.getElem?_cons_zero, List.getElem?_cons_succ, Option.map_some]
 repeat' (first | apply aZ | refine vt ?_ | (apply bG; refine bQ ?_) | (apply aWr; refine m_min ?_) | (apply pI; refine uL ?_) | (apply pJ; refine sE ?_) | (apply aU; refine bA ?_) | (apply aV; refine bE ?_) | (apply lS; refine oG ?_) | (refine mQ ?_ ?_ <;> intro hb hq <;> try omega))
 have hz := xE r
 have ha := aNe r c
 have e0 : r.extract 0 (min (r.size : Int) 21).toNat = headV r := by
  unfold headV
  rw [show (min (r.size : Int) 21).toNat = min r.size 21 by omega]
 have e1 : Lib.indexByte (headV r).data.toList ((c.toNat : Int).toNat.toUInt8) = atV r c := by
  unfold atV
  rw [Int.toNat_natCast]
  congr 1
  simp
 rw [e0]
 by_cases h0 : atV r c < 0
 ·skip
  repeat' (first | (apply aF; refine bP (iT (headV r) c.toNat) hE ?_; rintro _ rfl; rw [e1]) | refine oQ [(1000, 1000)] (nM r b) hE ?_ | refine nk ?_ | refine qs ?_ | refine vo ?_ | refine vz ?_ | refine xj ?_ | refine xo ?_ | (refine sQ ?_ ?_ <;> intro hb hq <;> try omega) | (refine wQ ?_ ?_ <;> intro hb hq <;> try omega))
  refine aP (rd emp true) (by rfl) rv (.inr ⟨fun n h => by have := h.1; omega, rfl, rfl⟩) sb okx
 ·have e2z : (numV r c).size ≤ 21 := by simp only [numV, ByteArray.size_extract]; omega
  have e3 : r.extract (atV r c + 1).toNat r.size = behind r c := by unfold behind; rfl
  by_cases hok : ∃ n, Lib.atoiAll (numV r c).data.toList = .ok n
  ·obtain ⟨n, hn⟩ := hok
   have hat : PureC 229 [.str (numV r c)] (· = .tup [.int n, .val .nilIface]) := (aDs (numV r c) zb).mono fun r h => by unfold AtoiD at h; rw [hn] at h; exact h
   have hbd := wO hn
   have hno : (itoaB n = numV r c → ¬ least ≤ n) → ∀ m, ¬ numIs r c least m := by
    rintro h m ⟨_, h2, h3, h4⟩
    rw [hn] at h2
    injection h2 with h2
    subst h2
    exact h h3 h4
   by_cases hi : itoaB n = numV r c
   ·have f1 : (!decide (itoaB n = numV r c)) = false := by simp [hi]
    by_cases hle : least ≤ n
    ·skip
     repeat' (first | (apply aF; refine bP (iT (headV r) c.toNat) hE ?_; rintro _ rfl; rw [e1]) | refine kQ (hat) hE ?_ | refine nk ?_ | refine qs ?_ | refine vo ?_ | refine vz ?_ | refine xj ?_ | refine xo ?_ | (refine sQ ?_ ?_ <;> intro hb hq <;> try omega) | (refine wQ ?_ ?_ <;> intro hb hq <;> try omega))
     refine dF [(0, true), (1, true), (2, true), (3, true), (5, true), (6, true), (7, true), (4, false), (8, true), (9, true), (10, true), (11, true), (12, true), (13, true), (14, true)] [] zp zp zp zg ?_
     simp only [planned, tailed, List.filterMap_cons, List.filterMap_nil, List.getElem?_cons_zero, List.getElem?_cons_succ, Option.map_some]
     repeat' (first | apply aZ | refine vt ?_ | (apply aR (.binOp .neq _ _ _ _); refine bS zj (yQ rfl aSt) (aA rfl) ?_) | (apply aM; refine bI (nP n hbd.1 hbd.2) hE ?_; rintro _ rfl; (try dsimp only [flat, D.plain, D.plainL])) | (apply bG; refine bQ ?_) | (apply gD; refine iP ?_) | (apply tY; refine aAa ?_) | (apply dW; refine fV ?_) | (apply pJ; refine sE ?_) | (refine mQ ?_ ?_ <;> intro hb hq <;> try omega))
     repeat' (first | refine nk ?_ | refine qs ?_ | refine vo ?_ | refine vz ?_ | refine xj ?_ | refine xo ?_ | (refine sQ ?_ ?_ <;> intro hb hq <;> try omega) | (refine wQ ?_ ?_ <;> intro hb hq <;> try omega))
     refine aP (rd (r.extract (atV r c + 1).toNat r.size) b) (by rfl) rv (.inl ⟨n, ⟨by omega, hn, hi, hle⟩, rfl, by rw [e3]⟩) sb okx
    ·skip
     repeat' (first | (apply aF; refine bP (iT (headV r) c.toNat) hE ?_; rintro _ rfl; rw [e1]) | refine kQ (hat) hE ?_ | refine nk ?_ | refine qs ?_ | refine vo ?_ | refine vz ?_ | refine xj ?_ | refine xo ?_ | (refine sQ ?_ ?_ <;> intro hb hq <;> try omega) | (refine wQ ?_ ?_ <;> intro hb hq <;> try omega))
     refine dF [(0, true), (1, true), (2, true), (3, true), (5, true), (6, true), (7, true), (4, false), (8, true), (9, true), (10, true), (11, true), (12, true), (13, true), (14, true)] [] zp zp zp zg ?_
     simp only [planned, tailed, List.filterMap_cons, List.filterMap_nil, List.getElem?_cons_zero, List.getElem?_cons_succ, Option.map_some]
     repeat' (first | apply aZ | refine vt ?_ | (apply aR (.binOp .neq _ _ _ _); refine bS zj (yQ rfl aSt) (aA rfl) ?_) | (apply aM; refine bI (nP n hbd.1 hbd.2) hE ?_; rintro _ rfl; (try dsimp only [flat, D.plain, D.plainL])) | (apply bG; refine bQ ?_) | (apply gD; refine iP ?_) | (apply tY; refine aAa ?_) | (apply dW; refine fV ?_) | (apply pJ; refine sE ?_) | (refine mQ ?_ ?_ <;> intro hb hq <;> try omega))
     repeat' (first | refine oQ [(1000, 1000)] (nM r b) hE ?_ | refine nk ?_ | refine qs ?_ | refine vo ?_ | refine vz ?_ | refine xj ?_ | refine xo ?_ | (refine sQ ?_ ?_ <;> intro hb hq <;> try omega) | (refine wQ ?_ ?_ <;> intro hb hq <;> try omega))
     refine aP (rd emp true) (by rfl) rv (.inr ⟨hno (fun _ => hle), rfl, rfl⟩) sb okx
   ·have f1 : (!decide (itoaB n = numV r c)) = true := by simp [hi]
    repeat' (first | (apply aF; refine bP (iT (headV r) c.toNat) hE ?_; rintro _ rfl; rw [e1]) | refine kQ (hat) hE ?_ | refine nk ?_ | refine qs ?_ | refine vo ?_ | refine vz ?_ | refine xj ?_ | refine xo ?_ | (refine sQ ?_ ?_ <;> intro hb hq <;> try omega) | (refine wQ ?_ ?_ <;> intro hb hq <;> try omega))
    refine dF [(0, true), (1, true), (2, true), (3, true), (5, true), (6, true), (7, true), (4, false), (8, true), (9, true), (10, true), (11, true), (12, true), (13, true), (14, true)] [] zp zp zp zg ?_
    simp only [planned, tailed, List.filterMap_cons, List.filterMap_nil, List.getElem?_cons_zero, List.getElem?_cons_succ, Option.map_some]
    repeat' (first | apply aZ | refine vt ?_ | (apply aR (.binOp .neq _ _ _ _); refine bS zj (yQ rfl aSt) (aA rfl) ?_) | (apply aM; refine bI (nP n hbd.1 hbd.2) hE ?_; rintro _ rfl; (try dsimp only [flat, D.plain, D.plainL])) | (apply bG; refine bQ ?_) | (apply gD; refine iP ?_) | (apply tY; refine aAa ?_) | (apply dW; refine fV ?_) | (apply pJ; refine sE ?_) | (refine mQ ?_ ?_ <;> intro hb hq <;> try omega))
    repeat' (first | refine oQ [(1000, 1000)] (nM r b) hE ?_ | refine nk ?_ | refine qs ?_ | refine vo ?_ | refine vz ?_ | refine xj ?_ | refine xo ?_ | (refine sQ ?_ ?_ <;> intro hb hq <;> try omega) | (refine wQ ?_ ?_ <;> intro hb hq <;> try omega))
    refine aP (rd emp true) (by rfl) rv (.inr ⟨hno (fun h => absurd h hi), rfl, rfl⟩) sb okx
  ·have hat : PureC 229 [.str (numV r c)] (fun x => ∃ m, x = .tup [.int m, .err]) := (aDs (numV r c) zb).mono fun x h => by
    unfold AtoiD at h
    cases hq : Lib.atoiAll (numV r c).data.toList with
    | ok n => exact absurd ⟨n, hq⟩ hok
    | _ => rw [hq] at h; exact h
   repeat' (first | (apply aF; refine bP (iT (headV r) c.toNat) hE ?_; rintro _ rfl; rw [e1]) | (apply aF; refine bP (hat) hE ?_; rintro _ ⟨m, rfl⟩) | refine nk ?_ | refine qs ?_ | refine vo ?_ | refine vz ?_ | refine xj ?_ | refine xo ?_ | (refine sQ ?_ ?_ <;> intro hb hq <;> try omega) | (refine wQ ?_ ?_ <;> intro hb hq <;> try omega))
   refine dF [(0, true), (1, true), (2, true), (3, true), (5, true), (6, true), (7, true), (4, false), (8, true), (9, true), (10, true), (11, true), (12, true), (13, true), (14, true)] [] zp zp zp zg ?_
   simp only [planned, tailed, List.filterMap_cons, List.filterMap_nil, List.getElem?_cons_zero, List.getElem?_cons_succ, Option.map_some]
   repeat' (first | apply aZ | refine vt ?_ | (apply aR (.binOp .neq _ _ _ _); refine bS zj (aRs rfl aSt) (aA rfl) ?_) | (apply bG; refine bQ ?_) | (apply gD; refine iP ?_) | (apply tY; refine aAa ?_) | (apply dW; refine fV ?_) | (apply pJ; refine sE ?_) | (refine mQ ?_ ?_ <;> intro hb hq <;> try omega))
   repeat' (first | refine oQ [(1000, 1000)] (nM r b) hE ?_ | refine nk ?_ | refine qs ?_ | refine vo ?_ | refine vz ?_ | refine xj ?_ | refine xo ?_ | (refine sQ ?_ ?_ <;> intro hb hq <;> try omega) | (refine wQ ?_ ?_ <;> intro hb hq <;> try omega))
   refine aP (rd emp true) (by rfl) rv (.inr ⟨fun n h => hok ⟨n, h.2.1⟩, rfl, rfl⟩) sb okx
end
section
open Go.RowKit
open Classical in
noncomputable def numR (r : ByteArray) (c : UInt8) (least : Int) : Option Int := if h : ∃ n, numIs r c least n then some (Classical.choose h) else none
theorem aBx {r : ByteArray} {c : UInt8} {least n m : Int} (h : numIs r c least n) (h' : numIs r c least m) : n = m := by
 have h1 := h.2.1
 rw [h'.2.1] at h1
 injection h1 with h1
 exact h1.symm
theorem tT {r : ByteArray} {c : UInt8} {least n : Int} (h : numIs r c least n) : numR r c least = some n := by
 have he : ∃ n, numIs r c least n := ⟨n, h⟩
 unfold numR
 rw [dif_pos he, aBx (Classical.choose_spec he) h]
theorem aAh {r : ByteArray} {c : UInt8} {least : Int} (h : ∀ n, ¬ numIs r c least n) : numR r c least = none := by
 unfold numR
 rw [dif_neg (fun ⟨n, hn⟩ => h n hn)]
theorem aBy {r : ByteArray} {c : UInt8} {least n : Int} (h : numR r c least = some n) : numIs r c least n := by
 by_cases he : ∃ n, numIs r c least n
 ·obtain ⟨m, hm⟩ := he
  rw [tT hm] at h
  injection h with h
  rw [← h]
  exact hm
 ·rw [aAh (fun n hn => he ⟨n, hn⟩)] at h
  cases h
structure RS (α : Type) where
 v : α
 r : ByteArray
 b : Bool
noncomputable def numS (r : ByteArray) (b : Bool) (c : UInt8) (least : Int) : RS Int := match numR r c least with
 | some n => ⟨n, behind r c, b⟩
 | none => ⟨0, emp, true⟩
theorem aDt {r : ByteArray} {c : UInt8} {least n : Int} (h : numIs r c least n) : (behind r c).size < r.size := by
 have h1 := aNe r c
 have h2 := h.1
 simp only [behind, ByteArray.size_extract]
 omega
theorem aAi (r : ByteArray) (b : Bool) (c : UInt8) (least : Int) : ((numS r b c least).b = b ∧ (numS r b c least).r.size < r.size) ∨ (numS r b c least = ⟨0, emp, true⟩) := by
 cases h : numR r c least with
 | none => right; simp only [numS, h]
 | some n =>
  left
  simp only [numS, h, true_and]
  exact aDt (aBy h)
theorem cJ {r : ByteArray} {b : Bool} {c : UInt8} {least : Int} : (numS r b c least).r.size ≤ r.size := by
 rcases aAi r b c least with h | h
 ·omega
 ·rw [h]; exact Nat.zero_le _
theorem fQ {r : ByteArray} {b : Bool} {c : UInt8} {least : Int} (hl : least ≤ 0) : least ≤ (numS r b c least).v := by
 unfold numS
 cases h : numR r c least with
 | none => exact hl
 | some n => exact (aBy h).2.2.2
theorem aWk {r : ByteArray} {b : Bool} {c : UInt8} {least : Int} : (numS r b c least).v ≤ 9223372036854775807 := by
 unfold numS
 cases h : numR r c least with
 | none => simp
 | some n => exact (wO (aBy h).2.1).2
theorem nR (r : ByteArray) (b : Bool) (c : UInt8) (least : Int) (hr : r.size ≤ 1000000000) : ObC 168 [.box 1000 0, .d (.val (.int .u8 c.toNat)), .d (.int least)] (rd r b) []
  (fun x o => x = .d (.int (numS r b c least).v) ∧ o = rd (numS r b c least).r (numS r b c least).b) :=
 (aGd r b c least hr).mono fun x o h => by
  rcases h with ⟨n, h1, h2, h3⟩ | ⟨h1, h2, h3⟩
  ·simp only [numS, tT h1]
   exact ⟨h2, h3⟩
  ·simp only [numS, aAh h1]
   exact ⟨h2, h3⟩
attribute [local irreducible] numS
theorem eF (r : ByteArray) (b : Bool) (hr : r.size ≤ 1000000000) : ObC 158 [.box 1000 0] (rd r b) [] (fun x o => x = .d (.int (numS r b 59 0).v) ∧ o = rd (numS r b 59 0).r (numS r b 59 0).b) := by
 refine aI Tryz.func158 rfl zg _ Tryz.ntmps158 (aC rfl) rfl (fun w Pr β κ hE => ?_)
 dsimp only [slotsV, Nat.zero_add, Nat.reduceAdd]
 repeat' (first | refine oQ [(1000, 1000)] (nR r b 59 0 hr) hE ?_ | refine qo ?_ | fail)
 refine aP (rd (numS r b 59 0).r (numS r b 59 0).b) (by rfl) rv (⟨rfl, rfl⟩) sb okx
def least64 : Int := -9223372036854775808
theorem aIo (r : ByteArray) (b : Bool) (hr : r.size ≤ 1000000000) : ObC 167 [.box 1000 0] (rd r b) [] (fun x o => x = .d (.int (numS r b 59 (-9223372036854775808)).v) ∧ o = rd (numS r b 59 (-9223372036854775808)).r (numS r b 59 (-9223372036854775808)).b) := by
 refine aI Tryz.func167 rfl zg _ Tryz.ntmps167 (aC rfl) rfl (fun w Pr β κ hE => ?_)
 dsimp only [slotsV, Nat.zero_add, Nat.reduceAdd]
 repeat' (first | refine oQ [(1000, 1000)] (nR r b 59 (-9223372036854775808) hr) hE ?_ | refine qo ?_ | fail)
 refine aP (rd (numS r b 59 (-9223372036854775808)).r (numS r b 59 (-9223372036854775808)).b) (by rfl) rv (⟨rfl, rfl⟩) sb okx
def closeS (r : ByteArray) (b : Bool) (e : ByteArray) : ByteArray × Bool := if Lib.hasPrefix r.data.toList e.data.toList then (⟨(Lib.trimPrefix r.data.toList e.data.toList).toArray⟩, b) else (emp, true)
theorem jI (r : ByteArray) (b : Bool) (e : ByteArray) : ObC 170 [.box 1000 0, .d (.str e)] (rd r b) [] (fun x o => x = .tup [] ∧ o = rd (closeS r b e).1 (closeS r b e).2) := by
 refine aI Tryz.func170 rfl zg _ Tryz.ntmps170 (aC rfl) rfl (fun w Pr β κ hE => ?_)
 dsimp only [slotsV, Nat.zero_add, Nat.reduceAdd]
 cases hp : Lib.hasPrefix r.data.toList e.data.toList with
 | true =>
  repeat' (first | (apply aF; refine bP (qO r e) hE ?_; rintro _ rfl; rw [hp]) | refine nx ?_ | refine vo ?_ | refine vq ?_ | refine xe ?_ | refine cQ ?_ | (refine sQ ?_ ?_ <;> intro hb hq <;> try omega) | (apply iG; refine jN ?_))
  try refine qW ?_
  refine xP (rd ⟨(Lib.trimPrefix r.data.toList e.data.toList).toArray⟩ b) (by rfl) (⟨rfl, by simp [closeS, hp]⟩) sb okx
 | false =>
  repeat' (first | (apply aF; refine bP (qO r e) hE ?_; rintro _ rfl; rw [hp]) | refine oQ [(1000, 1000)] (nM _ _) hE ?_ | refine nx ?_ | refine vo ?_ | refine vq ?_ | refine xe ?_ | refine cQ ?_ | (refine sQ ?_ ?_ <;> intro hb hq <;> try omega) | (apply iG; refine jN ?_))
  try refine qW ?_
  refine xP (rd emp true) (by rfl) (⟨rfl, by simp [closeS, hp]⟩) sb okx
theorem uJ (r : ByteArray) (b : Bool) (e : ByteArray) : (closeS r b e).1.size ≤ r.size := by
 unfold closeS
 split
 ·have : (Lib.trimPrefix r.data.toList e.data.toList).length ≤ r.data.toList.length := by
   unfold Lib.trimPrefix
   split
   all_goals first
    | exact Nat.le_refl _
    | (rw [List.length_drop]; exact Nat.sub_le _ _)
  have h2 : r.data.toList.length = r.size := by simp
  show (List.toArray _).size ≤ _
  rw [List.size_toArray]
  omega
 ·exact Nat.zero_le _
noncomputable def textS (r : ByteArray) (b : Bool) : RS ByteArray :=
 let q := numS r b 58 0
 if q.v > q.r.size then ⟨emp, emp, true⟩
 else
  let c := closeS (q.r.extract q.v.toNat q.r.size) q.b ⟨#[44]⟩
  ⟨if c.2 then emp else q.r.extract 0 q.v.toNat, c.1, c.2⟩
attribute [local irreducible] closeS
theorem yP (r : ByteArray) (b : Bool) (hr : r.size ≤ 1000000000) : ObC 42 [.box 1000 0] (rd r b) [] (fun x o => x = .d (.str (textS r b).v) ∧ o = rd (textS r b).r (textS r b).b) := by
 refine aI Tryz.func42 rfl zg _ Tryz.ntmps42 (aC rfl) rfl (fun w Pr β κ hE => ?_)
 dsimp only [slotsV, Nat.zero_add, Nat.reduceAdd]
 have h0 := fQ (r := r) (b := b) (c := 58) (least := 0) (Int.le_refl _)
 have h1 := cJ (r := r) (b := b) (c := 58) (least := 0)
 have hT : textS r b = textS r b := rfl
 conv at hT => rhs; unfold textS
 rcases hq : numS r b 58 0 with ⟨n, q, e⟩
 rw [hq] at hT h0 h1
 simp only at hT h0 h1
 by_cases hn : n > q.size
 ·rw [if_pos hn] at hT
  repeat' (first | (apply aF; refine cP [(1000, 1000)] (nR r b 58 0 hr) hE ?_; rw [hq]; rintro _ _ ⟨rfl, rfl⟩ <;> (intro _ _ h1 h2; simp only [aO, Nat.reduceBEq, aG, aL, aH] at h1 h2; subst h1 h2)) | refine oQ [(1000, 1000)] (nM _ _) hE ?_ | refine nx ?_ | refine qw ?_ | refine vn ?_ | refine vo ?_ | refine vq ?_ | (refine sQ ?_ ?_ <;> intro hb hq <;> try omega) | (apply sP; refine vX ?_))
  refine aP (rd emp true) (by rfl) rv (⟨by rw [hT]; rfl, by rw [hT]⟩) sb okx
 ·rw [if_neg hn] at hT
  rcases hc : closeS (q.extract n.toNat q.size) e ⟨#[44]⟩ with ⟨q2, e2⟩
  rw [hc] at hT
  simp only at hT
  cases e2
  ·skip
   repeat' (first | (apply aF; refine cP [(1000, 1000)] (nR r b 58 0 hr) hE ?_; rw [hq]; rintro _ _ ⟨rfl, rfl⟩ <;> (intro _ _ h1 h2; simp only [aO, Nat.reduceBEq, aG, aL, aH] at h1 h2; subst h1 h2)) | (apply aF; refine cP [(1000, 1000)] (jI (q.extract n.toNat q.size) e ⟨#[44]⟩) hE ?_; rw [hc]; rintro _ _ ⟨rfl, rfl⟩ <;> (intro _ _ h1 h2; simp only [aO, Nat.reduceBEq, aG, aL, aH] at h1 h2; subst h1 h2)) | refine nx ?_ | refine qw ?_ | refine vn ?_ | refine vo ?_ | refine vq ?_ | (refine sQ ?_ ?_ <;> intro hb hq <;> try omega) | (apply sP; refine vX ?_))
   refine aP (rd q2 false) (by rfl) rv (⟨by rw [hT]; rfl, by rw [hT]⟩) sb okx
  ·skip
   repeat' (first | (apply aF; refine cP [(1000, 1000)] (nR r b 58 0 hr) hE ?_; rw [hq]; rintro _ _ ⟨rfl, rfl⟩ <;> (intro _ _ h1 h2; simp only [aO, Nat.reduceBEq, aG, aL, aH] at h1 h2; subst h1 h2)) | (apply aF; refine cP [(1000, 1000)] (jI (q.extract n.toNat q.size) e ⟨#[44]⟩) hE ?_; rw [hc]; rintro _ _ ⟨rfl, rfl⟩ <;> (intro _ _ h1 h2; simp only [aO, Nat.reduceBEq, aG, aL, aH] at h1 h2; subst h1 h2)) | refine nx ?_ | refine qw ?_ | refine vn ?_ | refine vo ?_ | refine vq ?_ | (refine sQ ?_ ?_ <;> intro hb hq <;> try omega) | (apply sP; refine vX ?_))
   refine aP (rd q2 true) (by rfl) rv (⟨by rw [hT]; rfl, by rw [hT]⟩) sb okx
end
section
open Go.RowKit
abbrev isInt (n : Int) : Prop := -9223372036854775808 ≤ n ∧ n ≤ 9223372036854775807
theorem nA {u : Nat} {c : UInt8} (h : c ∈ Lib.decDigits u) : 48 ≤ c.toNat ∧ c.toNat ≤ 57 := by
 induction u using Nat.strongRecOn with
 | _ u ih =>
  rw [Lib.decDigits] at h
  split at h
  ·rename_i hu
   rw [List.mem_singleton] at h
   subst h
   rw [wS hu]
   omega
  ·rcases List.mem_append.1 h with h | h
   ·exact ih (u / 10) zb h
   ·rw [List.mem_singleton] at h
    subst h
    rw [wS zb]
    omega
theorem rU (u : Nat) : Lib.decDigits u ≠ [] := by
 rw [Lib.decDigits]
 split <;> simp
theorem xQ {acc u : Nat} {r : List UInt8} (hu : u < 10) (h : acc * 10 + u < 18446744073709551616) : Lib.parseUint10 acc (UInt8.ofNat (48 + u) :: r) = Lib.parseUint10 (acc * 10 + u) r := by
 rw [Lib.parseUint10, wS hu, if_pos zb, if_neg zb, if_neg zb]
 congr 1
 omega
theorem aAm {u : Nat} (h : u < 18446744073709551616) : ∀ r, Lib.parseUint10 0 (Lib.decDigits u ++ r) = Lib.parseUint10 u r := by
 induction u using Nat.strongRecOn with
 | _ u ih =>
  intro r
  rw [Lib.decDigits]
  split
  ·rename_i hu
   rw [List.singleton_append, xQ hu zb]
   congr 1
   omega
  ·rw [List.append_assoc, ih (u / 10) zb zb, List.singleton_append, xQ zb zb]
   congr 1
   omega
theorem aKd {n : Int} (h : isInt n) : Lib.atoiAll (Lib.itoa n) = .ok n := by
 unfold Lib.itoa
 split
 ·have h1 := aAm (u := n.natAbs) zb []
  rw [List.append_nil] at h1
  rw [Lib.atoiAll_minus, Lib.parseMag, if_neg (rU _), h1]
  simp only [Lib.parseUint10, Lib.signed]
  rw [if_neg zb]
  congr 1
  omega
 ·have h1 := aAm (u := n.toNat) zb []
  rw [List.append_nil] at h1
  have h2 := rU n.toNat
  cases hd : Lib.decDigits n.toNat with
  | nil => exact absurd hd h2
  | cons c t =>
   have hc := nA (u := n.toNat) (c := c) (by rw [hd]; simp)
   rw [Lib.atoiAll_plain c t zb zb, Lib.parseMag, if_neg (by simp), ← hd, h1]
   simp only [Lib.parseUint10, Lib.signless]
   rw [if_neg zb]
   congr 1
   omega
def Sep (c : UInt8) : Prop := ¬ c.toNat = 45 ∧ ¬ (48 ≤ c.toNat ∧ c.toNat ≤ 57)
theorem aOk {n : Int} {c : UInt8} (h : c ∈ Lib.itoa n) : c.toNat = 45 ∨ (48 ≤ c.toNat ∧ c.toNat ≤ 57) := by
 unfold Lib.itoa at h
 split at h
 ·rcases List.mem_cons.1 h with rfl | h
  ·exact .inl rfl
  ·exact .inr (nA h)
 ·exact .inr (nA h)
theorem aUl {n : Int} {c : UInt8} (hc : Sep c) : c ∉ Lib.itoa n := fun h => by
 rcases aOk h with h | h
 ·exact hc.1 h
 ·exact hc.2 h
theorem aEh {a t : List UInt8} {c : UInt8} (h : c ∉ a) : Lib.indexByte (a ++ c :: t) c = a.length := by
 induction a with
 | nil => simp [Lib.indexByte]
 | cons b a ih =>
  have hb : (b == c) = false := by
   have : b ≠ c := fun e => h (e ▸ List.mem_cons_self)
   simpa using this
  have := ih (fun hm => h (List.mem_cons_of_mem _ hm))
  simp only [List.cons_append, Lib.indexByte, hb, this, List.length_cons]
  rw [if_neg (by simp), if_neg (by simp)]
  omega
theorem xD (r : ByteArray) : (headV r).data.toList = r.data.toList.take 21 := by
 simp only [headV, ByteArray.data_extract, Array.toList_extract, List.extract_eq_take_drop, List.drop_zero, Nat.sub_zero]
 rcases Nat.le_total r.size 21 with h | h
 ·rw [Nat.min_eq_left h, List.take_of_length_le (by simp), List.take_of_length_le (by simpa using h)]
 ·rw [Nat.min_eq_right h]
theorem aDx (r : ByteArray) (k : Nat) : (r.extract 0 k).data.toList = r.data.toList.take k := by
 simp only [ByteArray.data_extract, Array.toList_extract, List.extract_eq_take_drop, List.drop_zero, Nat.sub_zero]
theorem aDw (r : ByteArray) (k : Nat) : (r.extract k r.size).data.toList = r.data.toList.drop k := by
 simp only [ByteArray.data_extract, Array.toList_extract, List.extract_eq_take_drop]
 rw [List.take_of_length_le (by simp)]
theorem xG (n : Int) : (itoaB n).data.toList = Lib.itoa n := rfl
theorem mN {n : Int} (h : isInt n) : (Lib.itoa n).length ≤ 20 := by
 have key : ∀ u : Nat, u < 10000000000000000000 → (Lib.decDigits u).length ≤ 19 := by
  intro u hu
  rw [Lib.decDigits_length]
  have h2 : ∀ k u : Nat, u < 10 ^ (k + 1) → Lib.nDigits u ≤ k + 1 := by
   intro k
   induction k with
   | zero => intro u hu; rw [Lib.nDigits_small (by simpa using hu)]; exact Nat.le_refl _
   | succ k ih =>
    intro u hu
    by_cases h : u < 10
    ·rw [Lib.nDigits_small h]; omega
    ·rw [Lib.nDigits_big h]
     have := ih (u / 10) (by rw [Nat.div_lt_iff_lt_mul zg]; rw [Nat.pow_succ] at hu; exact hu)
     omega
  exact h2 18 u zb
 unfold Lib.itoa
 split
 ·have := key n.natAbs zb
  rw [List.length_cons]
  omega
 ·have := key n.toNat zb
  omega
theorem aPa {r : ByteArray} {c : UInt8} {least n : Int} {t : List UInt8} (hc : Sep c) (h : r.data.toList = Lib.itoa n ++ c :: t) (hn : isInt n) (hl : least ≤ n) : numIs r c least n ∧ behind r c = ⟨t.toArray⟩ := by
 have hz := mN hn
 have e1 : r.data.toList.take 21 = Lib.itoa n ++ c :: (t.take (20 - (Lib.itoa n).length)) := by
  rw [h, List.take_append, List.take_of_length_le zb]
  congr 1
  rw [show 21 - (Lib.itoa n).length = (20 - (Lib.itoa n).length) + 1 by omega, List.take_succ_cons]
 have e2 : atV r c = (Lib.itoa n).length := by
  unfold atV
  rw [xD, e1]
  exact aEh (aUl hc)
 have e3 : numV r c = itoaB n := by
  apply mZ
  rw [aDx, xD, e1, e2, Int.toNat_natCast, List.take_left' rfl, xG]
 refine ⟨⟨by omega, ?_, e3.symm, hl⟩, ?_⟩
 ·rw [e3, xG]
  exact aKd hn
 ·apply mZ
  unfold behind
  rw [aDw, h, e2, show (((Lib.itoa n).length : Int) + 1).toNat = (Lib.itoa n).length + 1 by omega, List.drop_append, List.drop_of_length_le zb]
  simp
end
section
open Go.RowKit
noncomputable def itemsL {α : Type} (one : ByteArray → Bool → RS α) : Nat → ByteArray → Bool → List α → RS (List α)
 | 0, r, b, out => ⟨out, r, b⟩
 | k + 1, r, b, out => if b then ⟨out, r, b⟩ else itemsL one k (one r b).r (one r b).b (out ++ [(one r b).v])
noncomputable def itemsS {α : Type} (one : ByteArray → Bool → RS α) (r : ByteArray) (b : Bool) : RS (List α) :=
 let q := numS r b 91 0
 let l := itemsL one q.v.toNat q.r q.b []
 let c := closeS l.r l.b ⟨#[93]⟩
 ⟨if c.2 then [] else l.v, c.1, c.2⟩
noncomputable abbrev oneInt (r : ByteArray) (b : Bool) : RS Int := numS r b 59 (-9223372036854775808)
noncomputable abbrev oneText (r : ByteArray) (b : Bool) : RS ByteArray := textS r b
theorem zS (r : ByteArray) : ((oneInt r false).b = false ∧ (oneInt r false).r.size < r.size) ∨ (oneInt r false).b = true ∧ (oneInt r false).r.size ≤ r.size := by
 rcases aAi r false 59 (-9223372036854775808) with h | h
 ·exact .inl h
 ·right
  rw [oneInt, h]
  exact ⟨rfl, Nat.zero_le _⟩
attribute [local irreducible] numS closeS textS
theorem aKx (r : ByteArray) (b : Bool) (hr : r.size ≤ 1000000000) : ObC 166 [.box 1000 0, .mv (.func 167) [.box 1000 0]] (rd r b) [] (fun x o => x = .d (.list 1 ((itemsS oneInt r b).v.map fun n => [.int n])) ∧ o = rd (itemsS oneInt r b).r (itemsS oneInt r b).b) := by
 refine aI Tryz.func166 rfl zg _ Tryz.ntmps166 (aC rfl) rfl (fun w Pr β κ hE => ?_)
 dsimp only [slotsV, Nat.zero_add, Nat.reduceAdd]
 have h0 := fQ (r := r) (b := b) (c := 91) (least := 0) (Int.le_refl _)
 have h1 := cJ (r := r) (b := b) (c := 91) (least := 0)
 have h2 := aWk (r := r) (b := b) (c := 91) (least := 0)
 have hT : itemsS oneInt r b = itemsS oneInt r b := rfl
 conv at hT => rhs; unfold itemsS
 rcases hq : numS r b 91 0 with ⟨n, q, e⟩
 rw [hq] at hT h0 h1 h2
 simp only at hT h0 h1 h2
 repeat' (first | (apply aF; refine cP [(1000, 1000)] (nR r b 91 0 hr) hE ?_; rw [hq]; rintro _ _ ⟨rfl, rfl⟩ <;> (intro _ _ h1 h2; simp only [aO, Nat.reduceBEq, aG, aL, aH] at h1 h2; subst h1 h2)) | refine qh ?_ | refine vm ?_ | refine vn ?_ | refine xl ?_ | refine xz ?_ | (refine sQ ?_ ?_ <;> intro hb hq <;> try omega) | (refine wQ ?_ ?_ <;> intro hb hq <;> try omega))
 refine fJ 5 5 3 1 rfl rfl (aA rfl) ?_
 refine bB (fun N sl ob => ∃ (m k : Nat) (out : List _) (r' : ByteArray) (b' : Bool), N = m ∧ (m : Int) ≤ 9223372036854775807 ∧ itemsL oneInt n.toNat q e [] = itemsL oneInt m r' b' out ∧ r'.size ≤ q.size ∧ out.length ≤ q.size + 1 ∧ (b' = false → out.length + r'.size ≤ q.size) ∧ sl = [(6, .d (.int m)), (5, .row 5 k), (0, .box 1000 0), (1, .mv (.func 167) [.box 1000 0])] ∧ ob = [(5, .row 3 1 k (out.map fun z => [D.int z])), (1000, .box 206 [.d (.str r'), .d (.bool b')])]) (⟨n.toNat, 0, [], q, e, rfl, by omega, rfl, Nat.le_refl _, Nat.zero_le _, fun _ => by simp, rfl, rfl⟩) ?_
 rintro m sl ob ⟨_, k, out, r', b', rfl, hm, hL, hr', hout, hob, rfl, rfl⟩
 cases b' with
 | true =>
  have hL2 : itemsL oneInt n.toNat q e [] = ⟨out, r', true⟩ := by rw [hL]; cases m <;> rfl
  rw [hL2] at hT
  simp only at hT
  by_cases hm0 : 0 < m
  ·rcases hc : closeS r' true ⟨#[93]⟩ with ⟨q2, e2⟩
   rw [hc] at hT
   simp only at hT
   cases e2
   ·skip
    repeat' (first | (apply aF; refine cP [(1000, 1000)] (jI r' true ⟨#[93]⟩) hE ?_; rw [hc]; rintro _ _ ⟨rfl, rfl⟩ <;> (intro _ _ h1 h2; simp only [aO, Nat.reduceBEq, aG, aL, aH] at h1 h2; subst h1 h2)) | refine qh ?_ | refine vm ?_ | refine vn ?_ | refine xl ?_ | refine xz ?_ | (refine sQ ?_ ?_ <;> intro hb hq <;> try omega) | (refine wQ ?_ ?_ <;> intro hb hq <;> try omega))
    refine aP (rd q2 false) (by rfl) rv (⟨by rw [hT]; rfl, by rw [hT]⟩) sb okx
   ·skip
    repeat' (first | (apply aF; refine cP [(1000, 1000)] (jI r' true ⟨#[93]⟩) hE ?_; rw [hc]; rintro _ _ ⟨rfl, rfl⟩ <;> (intro _ _ h1 h2; simp only [aO, Nat.reduceBEq, aG, aL, aH] at h1 h2; subst h1 h2)) | refine qh ?_ | refine vm ?_ | refine vn ?_ | refine xl ?_ | refine xz ?_ | (refine sQ ?_ ?_ <;> intro hb hq <;> try omega) | (refine wQ ?_ ?_ <;> intro hb hq <;> try omega))
    refine aP (rd q2 true) (by rfl) (.x _ _ (.tmp _ _ (ToD.nil 1))) (⟨by rw [hT]; rfl, by rw [hT]⟩) zw (by rfl)
  ·rcases hc : closeS r' true ⟨#[93]⟩ with ⟨q2, e2⟩
   rw [hc] at hT
   simp only at hT
   cases e2
   ·skip
    repeat' (first | (apply aF; refine cP [(1000, 1000)] (jI r' true ⟨#[93]⟩) hE ?_; rw [hc]; rintro _ _ ⟨rfl, rfl⟩ <;> (intro _ _ h1 h2; simp only [aO, Nat.reduceBEq, aG, aL, aH] at h1 h2; subst h1 h2)) | refine qh ?_ | refine vm ?_ | refine vn ?_ | refine xl ?_ | refine xz ?_ | (refine sQ ?_ ?_ <;> intro hb hq <;> try omega) | (refine wQ ?_ ?_ <;> intro hb hq <;> try omega))
    refine aP (rd q2 false) (by rfl) rv (⟨by rw [hT]; rfl, by rw [hT]⟩) sb okx
   ·skip
    repeat' (first | (apply aF; refine cP [(1000, 1000)] (jI r' true ⟨#[93]⟩) hE ?_; rw [hc]; rintro _ _ ⟨rfl, rfl⟩ <;> (intro _ _ h1 h2; simp only [aO, Nat.reduceBEq, aG, aL, aH] at h1 h2; subst h1 h2)) | refine qh ?_ | refine vm ?_ | refine vn ?_ | refine xl ?_ | refine xz ?_ | (refine sQ ?_ ?_ <;> intro hb hq <;> try omega) | (refine wQ ?_ ?_ <;> intro hb hq <;> try omega))
    refine aP (rd q2 true) (by rfl) (.x _ _ (.tmp _ _ (ToD.nil 1))) (⟨by rw [hT]; rfl, by rw [hT]⟩) zw (by rfl)
 | false =>
  cases m with
  | zero =>
   have hL2 : itemsL oneInt n.toNat q e [] = ⟨out, r', false⟩ := hL
   rw [hL2] at hT
   simp only at hT
   rcases hc : closeS r' false ⟨#[93]⟩ with ⟨q2, e2⟩
   rw [hc] at hT
   simp only at hT
   cases e2
   ·skip
    repeat' (first | (apply aF; refine cP [(1000, 1000)] (jI r' false ⟨#[93]⟩) hE ?_; rw [hc]; rintro _ _ ⟨rfl, rfl⟩ <;> (intro _ _ h1 h2; simp only [aO, Nat.reduceBEq, aG, aL, aH] at h1 h2; subst h1 h2)) | refine qh ?_ | refine vm ?_ | refine vn ?_ | refine xl ?_ | refine xz ?_ | (refine sQ ?_ ?_ <;> intro hb hq <;> try omega) | (refine wQ ?_ ?_ <;> intro hb hq <;> try omega))
    refine aP (rd q2 false) (by rfl) rv (⟨by rw [hT]; rfl, by rw [hT]⟩) sb okx
   ·skip
    repeat' (first | (apply aF; refine cP [(1000, 1000)] (jI r' false ⟨#[93]⟩) hE ?_; rw [hc]; rintro _ _ ⟨rfl, rfl⟩ <;> (intro _ _ h1 h2; simp only [aO, Nat.reduceBEq, aG, aL, aH] at h1 h2; subst h1 h2)) | refine qh ?_ | refine vm ?_ | refine vn ?_ | refine xl ?_ | refine xz ?_ | (refine sQ ?_ ?_ <;> intro hb hq <;> try omega) | (refine wQ ?_ ?_ <;> intro hb hq <;> try omega))
    refine aP (rd q2 true) (by rfl) (.x _ _ (.tmp _ _ (ToD.nil 1))) (⟨by rw [hT]; rfl, by rw [hT]⟩) zw (by rfl)
  | succ m =>
   have hL2 : itemsL oneInt (m + 1) r' false out = itemsL oneInt m (oneInt r' false).r (oneInt r' false).b (out ++ [(oneInt r' false).v]) := rfl
   have hs := zS r'
   have hob' := hob rfl
   have hb2 : (oneInt r' false).b = false → (out ++ [(oneInt r' false).v]).length + (oneInt r' false).r.size ≤ q.size := fun hb => by
    rcases hs with ⟨_, hs⟩ | ⟨hs, _⟩
    ·simp only [List.length_append, List.length_cons, List.length_nil]
     omega
    ·rw [hb] at hs; cases hs
   repeat' (first | (apply aF; refine oE [(1000, 1000)] (aIo r' false zb) hE ?_; rintro _ _ ⟨rfl, rfl⟩ <;> (intro _ _ h1 h2; simp only [aO, Nat.reduceBEq, aG, aL, aH] at h1 h2; subst h1 h2)) | refine qh ?_ | refine vm ?_ | refine vn ?_ | refine xl ?_ | refine xz ?_ | (refine sQ ?_ ?_ <;> intro hb hq <;> try omega) | (refine wQ ?_ ?_ <;> intro hb hq <;> try omega))
   refine bK (⟨m, k + 1, out ++ [(oneInt r' false).v], (oneInt r' false).r, (oneInt r' false).b, rfl, by omega, hL.trans hL2, by omega, by simp; omega, hb2, rfl, rfl⟩) zb
attribute [local irreducible] itemsS
theorem aPe (r : ByteArray) (b : Bool) (hr : r.size ≤ 1000000000) : ObC 37 [.box 1000 0] (rd r b) [] (fun x o => x = .d (.list 1 ((itemsS oneInt r b).v.map fun n => [.int n])) ∧ o = rd (itemsS oneInt r b).r (itemsS oneInt r b).b) := by
 refine aI Tryz.func37 rfl zg _ Tryz.ntmps37 (aC rfl) rfl (fun w Pr β κ hE => ?_)
 dsimp only [slotsV, Nat.zero_add, Nat.reduceAdd]
 repeat' (first | refine oQ [(1000, 1000)] (aKx r b hr) hE ?_ | refine qo ?_ | (apply gO; refine jB ?_))
 refine aP (rd (itemsS oneInt r b).r (itemsS oneInt r b).b) (by rfl) rv (⟨rfl, rfl⟩) sb okx
end
section
open Go.RowKit
def semi : ByteArray := ⟨#[59]⟩
def intW (n : Int) : ByteArray := itoaB n ++ ⟨#[59]⟩
def numW (n : Int) : ByteArray := if n < 0 then ⟨#[]⟩ else intW n
def textW (s : ByteArray) : ByteArray := itoaB s.size ++ ⟨#[58]⟩ ++ s ++ ⟨#[44]⟩
theorem pF (n : Int) (h0 : -9223372036854775808 ≤ n) (h1 : n ≤ 9223372036854775807) : (itoaB n).size ≤ 20 := by
 have key : ∀ u : Nat, u < 10000000000000000000 → (Lib.decDigits u).length ≤ 19 := by
  intro u hu
  rw [Lib.decDigits_length]
  rcases Nat.lt_or_ge 19 (Lib.nDigits u) with h | h
  ·exfalso
   have h2 : ∀ k u : Nat, u < 10 ^ (k + 1) → Lib.nDigits u ≤ k + 1 := by
    intro k
    induction k with
    | zero => intro u hu; rw [Lib.nDigits_small (by simpa using hu)]; exact Nat.le_refl _
    | succ k ih =>
     intro u hu
     by_cases h : u < 10
     ·rw [Lib.nDigits_small h]; omega
     ·rw [Lib.nDigits_big h]
      have := ih (u / 10) (by rw [Nat.div_lt_iff_lt_mul zg]; rw [Nat.pow_succ] at hu; exact hu)
      omega
   have := h2 18 u zb
   omega
  ·exact h
 have : (itoaB n).size = (Lib.itoa n).length := List.size_toArray
 rw [this, Lib.itoa]
 split
 ·have := key n.natAbs zb
  rw [List.length_cons]
  omega
 ·have := key n.toNat zb
  omega
theorem uE (n : Int) (h0 : -9223372036854775808 ≤ n) (h1 : n ≤ 9223372036854775807) : PureC 106 [.int n] (· = .str (intW n)) := by
 have hz := pF n h0 h1
 have hs : ByteArray.size ⟨#[59]⟩ = 1 := rfl
 refine aE Tryz.func106 rfl zg _ Tryz.ntmps106 (aC rfl) (fun w Pr hE => ?_)
 dsimp only [slotsOf, Nat.zero_add, Nat.reduceAdd]
 repeat' (first | refine kQ (nP n h0 h1) hE ?_ | refine nx ?_ | refine vb ?_ | fail)
 refine rt1 ?_
 rfl
theorem gM (n : Int) (h0 : -9223372036854775808 ≤ n) (h1 : n ≤ 9223372036854775807) : PureC 211 [.int n] (· = .str (numW n)) := by
 refine aE Tryz.func211 rfl zg _ Tryz.ntmps211 (aC rfl) (fun w Pr hE => ?_)
 dsimp only [slotsOf, Nat.zero_add, Nat.reduceAdd]
 by_cases hn : n < 0
 ·skip
  repeat' (first | refine vj ?_ | refine vz ?_ | refine cQ ?_ | (refine sQ ?_ ?_ <;> intro hb hq <;> try omega))
  refine rt1 ?_
  simp [numW, hn]
 ·skip
  repeat' (first | refine kQ (uE n h0 h1) hE ?_ | refine vj ?_ | refine vz ?_ | refine cQ ?_ | (refine sQ ?_ ?_ <;> intro hb hq <;> try omega))
  refine rt1 ?_
  simp [numW, hn]
theorem aAz (s : ByteArray) (hs : s.size ≤ 1000000000) : PureC 109 [.str s] (· = .str (textW s)) := by
 have hz := pF s.size zb zb
 have hs1 : ByteArray.size ⟨#[58]⟩ = 1 := rfl
 have hs2 : ByteArray.size ⟨#[44]⟩ = 1 := rfl
 have z1 : (itoaB s.size ++ ⟨#[58]⟩).size = (itoaB s.size).size + 1 := ByteArray.size_append
 have z2 : (itoaB s.size ++ ⟨#[58]⟩ ++ s).size = (itoaB s.size ++ ⟨#[58]⟩).size + s.size := ByteArray.size_append
 refine aE Tryz.func109 rfl zg _ Tryz.ntmps109 (aC rfl) (fun w Pr hE => ?_)
 dsimp only [slotsOf, Nat.zero_add, Nat.reduceAdd]
 repeat' (first | refine kQ (nP s.size zb zb) hE ?_ | refine nx ?_ | refine vb ?_ | (apply jA; refine lV ?_))
 refine rt1 ?_
 rfl
theorem aEi (n : Int) (h : -9223372036854775808 ≤ n ∧ n ≤ 9223372036854775807) : (intW n).size ≤ 21 := by
 have h1 := pF n h.1 h.2
 have h2 : (intW n).size = (itoaB n).size + 1 := ByteArray.size_append
 omega
end
end Go.Proofs.YtaodngiigdbgeaaGreatDoor
