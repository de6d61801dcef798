/-
  Conditions: none.
-/
import Derived.Lib.UnsafeStr
import Derived.Test.YtaodngiigdbgeaaGreatDoorMaa
import Derived.Test.YtaodngiigdbgeaaGreatDoorMah
import Derived.Test.YtaodngiigdbgeaaGreatDoorMal
import Derived.Test.YtaodngiigdbgeaaGreatDoorMap
import Derived.Test.YtaodngiigdbgeaaGreatDoorMay
set_option maxHeartbeats 16000000
set_option maxRecDepth 20000
set_option linter.unusedSimpArgs false
set_option linter.unusedVariables false
namespace Go.Proofs.YtaodngiigdbgeaaGreatDoor
section
open Go.RowKit
theorem L_B (l : List UInt8) : L (B l) = l := rfl
theorem jD (a : ByteArray) : (L a).length = a.size := Array.length_toList
theorem aBz {r : ByteArray} {b : Bool} {c : UInt8} {least n : Int} {t : List UInt8} (hc : Sep c) (h : L r = Lib.itoa n ++ c :: t) (hn : isInt n) (hl : least ≤ n) : numS r b c least = ⟨n, B t, b⟩ := by
 obtain ⟨h1, h2⟩ := aPa hc h hn hl
 simp only [numS, tT h1, h2]
theorem sep59 : Sep 59 := by unfold Sep; decide
theorem sep58 : Sep 58 := by unfold Sep; decide
theorem sep91 : Sep 91 := by unfold Sep; decide
theorem zN {r : ByteArray} {b : Bool} {c : UInt8} {t : List UInt8} (h : L r = c :: t) : closeS r b ⟨#[c]⟩ = (B t, b) := by
 have h1 : r.data.toList = c :: t := h
 have h2 : Lib.hasPrefix (c :: t) [c] = true := by simp [Lib.hasPrefix]
 have h3 : Lib.trimPrefix (c :: t) [c] = t := by simp [Lib.trimPrefix, Lib.hasPrefix]
 simp only [closeS, h1, h2, h3, if_true]
theorem iN (n : Int) : L (intW n) = Lib.itoa n ++ [59] := by rw [intW, kR]; rfl
theorem aCy (s : ByteArray) : L (textW s) = Lib.itoa s.size ++ 58 :: (L s ++ [44]) := by
 rw [textW, kR, kR, kR]
 simp only [List.append_assoc]
 rfl
theorem aGu {n least : Int} {r : ByteArray} {b : Bool} {t : List UInt8} (h : L r = L (intW n) ++ t) (hn : isInt n) (hl : least ≤ n) : numS r b 59 least = ⟨n, B t, b⟩ := by
 refine aBz sep59 ?_ hn hl
 rw [h, iN]
 simp
theorem aJs {s : ByteArray} {r : ByteArray} {t : List UInt8} (h : L r = L (textW s) ++ t) (hs : s.size ≤ 9223372036854775807) : textS r false = ⟨s, B t, false⟩ := by
 have h1 : numS r false 58 0 = ⟨s.size, B (L s ++ 44 :: t), false⟩ := by
  refine aBz sep58 ?_ ⟨by omega, by omega⟩ zb
  rw [h, aCy]
  simp
 have hz : (B (L s ++ 44 :: t)).size = s.size + (t.length + 1) := by
  have : (B (L s ++ 44 :: t)).size = (L s ++ 44 :: t).length := List.size_toArray
  rw [this, List.length_append, jD, List.length_cons]
 have h2 : (B (L s ++ 44 :: t)).extract 0 (s.size : Int).toNat = s := by
  apply mZ
  rw [aDx, Int.toNat_natCast, ← jD s]
  exact List.take_left' rfl
 have h3 : L ((B (L s ++ 44 :: t)).extract (s.size : Int).toNat (B (L s ++ 44 :: t)).size) = 44 :: t := by
  rw [L, aDw, Int.toNat_natCast, ← jD s]
  exact List.drop_left' rfl
 have h4 := zN (b := false) h3
 unfold textS
 simp only [h1, h2, h4]
 rw [if_neg zb]
 rfl
end
section
open Go.RowKit
abbrev bldA : Bool → V
 | true => .box 1000 0
 | false => .d (.val (.pointer none))
abbrev bld (A : V) (k : Nat) (l : List (List D)) : Objs := [(1000, .box 244 [A, .row 1001 k]), (1001, .row 5 1 k l)]
theorem rR {A : V} {k : Nat} {l : List (List D)} {i : Nat} {o : O} (h : find (bld A k l) i = some o) : (i = 1000 ∧ o = .box 244 [A, .row 1001 k]) ∨ (i = 1001 ∧ o = .row 5 1 k l) := by
 by_cases h1 : i = 1000
 ·subst h1
  rw [cN] at h
  cases h
  exact .inl ⟨rfl, rfl⟩
 ·rw [cE h1] at h
  by_cases h2 : i = 1001
  ·subst h2
   rw [cN] at h
   cases h
   exact .inr ⟨rfl, rfl⟩
  ·rw [cE h2] at h
   cases h
theorem qN (used : Bool) (k : Nat) (l : List (List D)) : ObC 259 [.box 1000 0] (bld (bldA used) k l) [] (fun x o => x = .tup [] ∧ o = bld (.box 1000 0) k l) := by
 refine ⟨⟨_, Tryz.func259, by decide, rfl⟩, fun w Pr vs β κ hp hE hl hv ho hap => ?_⟩
 match vs, hl with
 | [v], _ =>
  have h1 := hv 0 v _ rfl rfl
  have hO := ho 1000 _ rfl
  have hR := ho 1001 _ rfl
  obtain ⟨b, cs, q1, _, q3, q4, q5, q6⟩ := hO
  cases h1 with
  | box _ _ g hb =>
   rw [q1] at hb
   simp only [Value.pointer.injEq, Option.some.injEq, Addr.mk.injEq, and_true] at hb
   subst hb
   match cs, q4 with
   | [c0, c1], _ =>
    have r0 := q5 0 c0 _ rfl rfl
    have r1 := q5 1 c1 _ rfl rfl
    have hcell : w.cell? ⟨b, 0, none⟩ = some c0 := by
     rw [cell_of_row w b 0 _ _ (0, 0) q3]
     rfl
    have wof : ∀ i o, find (bld (.box 1000 0) k l) i = some o → i ∈ keys (bld (bldA used) k l) ++ [] ∧ o.within (keys (bld (bldA used) k l) ++ []) = true := by
     intro i o hi
     rcases rR hi with ⟨rfl, rfl⟩ | ⟨rfl, rfl⟩
     ·exact ⟨by simp [keys], rfl⟩
     ·exact ⟨by simp [keys], rfl⟩
    have own : ∀ i o g, find (bld (.box 1000 0) k l) i = some o → blk (β i) = some g → Lent (bld (bldA used) k l) β g ∨ w.heap.size ≤ g := by
     intro i o g hi hg
     rcases rR hi with ⟨rfl, rfl⟩ | ⟨rfl, rfl⟩
     ·exact .inl ⟨1000, _, rfl, hg⟩
     ·exact .inl ⟨1001, _, rfl, hg⟩
    have hapart : ∀ i j oi oj g, find (bld (.box 1000 0) k l) i = some oi → find (bld (.box 1000 0) k l) j = some oj → blk (β i) = some g → blk (β j) = some g → i = j := by
     intro i j oi oj g hi hj h2 h3
     have : ∀ i oi, find (bld (.box 1000 0) k l) i = some oi → ∃ o, find (bld (bldA used) k l) i = some o := by
      intro i oi hi
      rcases rR hi with ⟨rfl, rfl⟩ | ⟨rfl, rfl⟩ <;> exact ⟨_, rfl⟩
     obtain ⟨_, hi'⟩ := this i oi hi
     obtain ⟨_, hj'⟩ := this j oj hj
     exact hap i j _ _ g hi' hj' h2 h3
    have hself : RepV w Pr β κ (.pointer (some ⟨b, 0, none⟩)) (.box 1000 0) := .box 1000 0 b q1
    cases used with
    | true =>
     cases r0 with
     | box _ _ g hg =>
      rw [q1] at hg
      simp only [Value.pointer.injEq, Option.some.injEq, Addr.mk.injEq, and_true] at hg
      subst hg
      refine (Any.Builder_copyCheck_used Tryz.lays240 Tryz.X72_240 b w hcell).mono fun e w' ⟨he, hw⟩ => ?_
      subst hw
      exact ⟨_, _, _, Pr, β, κ, he, ⟨rfl, rfl⟩, Under.refl _ _, fun _ _ _ => rfl, fun _ _ h => h, fun _ _ h => .inl h, hp, .tup [] [] rfl (by simp), ho, hap, own, fun _ _ _ => .inl ⟨rfl, rfl⟩, rfl, wof⟩
    | false =>
     have e0 := r0.val_inv
     subst e0
     refine (Any.Builder_copyCheck_fresh Tryz.lays240 Tryz.X72_240 b w hcell (by simp [World.shape?, q3]; rfl) (by simp [World.frozen?, q3])).mono fun e w' ⟨he, hw⟩ => ?_
     subst hw
     have hoth : ∀ k, k ≠ b → (w.setCell ⟨b, 0, none⟩ (.pointer (some ⟨b, 0, none⟩))).heap[k]? = w.heap[k]? := fun k hk => Below.heap_setCell w _ _ k hk
     have hnew : (w.setCell ⟨b, 0, none⟩ (.pointer (some ⟨b, 0, none⟩))).heap[b]? = some (.cells #[.pointer (some ⟨b, 0, none⟩), c1] 244 (0, 0)) := by
      simp only [World.setCell, Array.getElem?_modify, if_true, q3, Option.map_some]
      rfl
     have hst : Stays Pr w (w.setCell ⟨b, 0, none⟩ (.pointer (some ⟨b, 0, none⟩))) := fun b' o hb' => World.cell?_of_block (a := ⟨b', o, none⟩) (hoth b' (by rintro rfl; exact q6 o hb'))
     refine ⟨_, _, _, Pr, β, κ, he, ⟨rfl, rfl⟩, ⟨rfl, rfl, rfl, by simp [World.setCell], fun k _ hn => hoth k (fun e => hn ⟨1000, _, rfl, by rw [q1, e]; rfl⟩)⟩, hst, fun _ _ h => h, fun _ _ h => .inl h, fun b' o h => by simpa [World.setCell] using hp b' o h, .tup [] [] rfl (by simp), fun i o hi => ?_, hapart, own, fun _ _ _ => .inl ⟨rfl, rfl⟩, rfl, wof⟩
     rcases rR hi with ⟨rfl, rfl⟩ | ⟨rfl, rfl⟩
     ·refine ⟨b, [.pointer (some ⟨b, 0, none⟩), c1], q1, Nat.zero_le _, hnew, rfl, fun j v x hj hx => ?_, q6⟩
      match j with
      | 0 => cases hj; cases hx; exact .box 1000 0 b q1
      | 1 => cases hj; cases hx; exact r1.keep hst (fun _ _ h => h)
     ·refine hR.keep hst (fun _ _ h => h) (fun _ _ h => .inl h) (fun g hg => hoth g ?_)
      rintro rfl
      have := hap 1000 1001 _ _ g rfl rfl (by rw [q1]; rfl) hg
      cases this
theorem uY (used : Bool) (k : Nat) (l : List (List D)) (s : ByteArray) (hm : l.length + s.size ≤ 140737488355328) : ObC 210 [.box 1000 0, .d (.str s)] (bld (bldA used) k l) [] (fun x o => x = .tup [.d (.int s.size), .d (.val .nilIface)] ∧ o = bld (.box 1000 0) (k + 1) (l ++ bytesD s)) := by
 cases used
 ·skip
  refine aI Tryz.func210 rfl zg _ Tryz.ntmps210 (aC rfl) rfl (fun w Pr β κ hE => ?_)
  dsimp only [slotsV, Nat.zero_add, Nat.reduceAdd]
  repeat' (first | (apply aB (.call { callee := .value _, args := _, argTypes := _ }); refine nJ [(1000, 1000), (1001, 1001)] (qN false k l) rfl hE (aA rfl) (by (repeat (first | refine ArgsV.cons (.same _ _ rfl) ?_ | refine ArgsV.cons (.toD _ _ zn) ?_)); exact ArgsV.nil) ⟨(bY rfl (bY rfl cU)), rfl, rfl, rfl, rfl⟩ ?_; (all_goals (try first | omega | assumption)); rintro _ _ ⟨rfl, rfl⟩ <;> (intro _ _ h1 h2; simp only [V.ren, V.renL, O.ren, renO, rn, dropK, keys, mem, List.map_cons, List.map_nil, List.any_cons, List.any_nil, List.cons_append, List.nil_append, iD, Nat.reduceBEq, cond_true, cond_false, Bool.or_false, Bool.false_or, Bool.true_or] at h1 h2; subst h1 h2)) | (apply aB (.call { callee := .builtin .append, args := _, argTypes := _ }); refine aD (uS rfl rfl rfl rfl rfl zp hm (aA rfl)) rfl ?_) | apply pA | apply jG | apply oV | apply uH | apply mK | apply jF | apply jE | apply lC | apply mL | apply oZ | (apply aB (.move _); refine aK (lH jf) (aA rfl) ?_) | (apply aB (.assign _); refine aK (hD jf) (aA rfl) ?_) | (apply aB (.call { callee := .builtin .len, args := _, argTypes := _ }); first | refine aK (pT rfl rfl zp) (aA rfl) ?_ | refine aK (nI zx rfl ⟨_, _, _, _, rfl⟩ jj) (aA rfl) ?_ | refine aK (mX rfl rfl ⟨_, _, _, _, rfl⟩) (aA rfl) ?_) | (apply aB (.load _ _); first | refine aK (eP rfl rfl rfl) (aA rfl) ?_ | refine aK (bZ rfl rfl (dJ rfl rfl) rfl) (aA rfl) ?_ | refine aK (bZ rfl rfl rfl rfl) (aA rfl) ?_ | refine aK (dA rfl rfl rfl rfl) (aA rfl) ?_ | refine aK (dB rfl rfl rfl zk rfl) (aA rfl) ?_ | refine aK (gB hE zc rfl rfl) (aA rfl) ?_) | (apply aB (.fieldAddr _ _ _); first | refine aK (aDe rfl rfl rfl) (aA rfl) ?_ | refine aK (wB rfl rfl rfl) (aA rfl) ?_) | (apply aB (.nilCheck _); first | refine aK (tF rfl) (aA rfl) ?_ | refine aK (wC rfl) (aA rfl) ?_) | (apply aB (.store _ _ _); first | refine aD (aN rfl rfl (dR rfl) nofun zk zo (.inl ⟨rfl, rfl⟩) rfl (aC rfl) zk) rfl ?_ | refine aD (aN rfl rfl (dR rfl) nofun zk zo (.inr rfl) rfl (aC rfl) zk) rfl ?_ | refine aD (aN rfl rfl (dM rfl) nofun zk zo (.inl ⟨rfl, rfl⟩) rfl (aC rfl) zk) rfl ?_ | refine aD (aN rfl rfl (hU rfl) nofun zk zo (.inl ⟨rfl, rfl⟩) rfl (aC rfl) zk) rfl ?_) | (apply aB (.call { callee := .builtin .append, args := _, argTypes := _ }); refine aD (cY rfl rfl zx rfl rfl jt zg zf zf (aA rfl)) rfl ?_))
  refine uO (bld (.box 1000 0) (k + 1) (l ++ bytesD s)) (by rfl) (by first | exact ResV.x _ _ (ResX.tmp _ _ zn) | exact ResV.tmp _ _ rfl | exact ResV.x _ _ (ResX.cellA _ _ _ _ _ _ _ rfl rfl rfl zk rfl)) (by first | exact ResV.x _ _ (ResX.tmp _ _ zn) | exact ResV.tmp _ _ rfl | exact ResV.x _ _ (ResX.cellA _ _ _ _ _ _ _ rfl rfl rfl zk rfl)) (⟨rfl, rfl⟩) zw jl
 ·skip
  refine aI Tryz.func210 rfl zg _ Tryz.ntmps210 (aC rfl) rfl (fun w Pr β κ hE => ?_)
  dsimp only [slotsV, Nat.zero_add, Nat.reduceAdd]
  repeat' (first | (apply aB (.call { callee := .value _, args := _, argTypes := _ }); refine nJ [(1000, 1000), (1001, 1001)] (qN true k l) rfl hE (aA rfl) (by (repeat (first | refine ArgsV.cons (.same _ _ rfl) ?_ | refine ArgsV.cons (.toD _ _ zn) ?_)); exact ArgsV.nil) ⟨(bY rfl (bY rfl cU)), rfl, rfl, rfl, rfl⟩ ?_; (all_goals (try first | omega | assumption)); rintro _ _ ⟨rfl, rfl⟩ <;> (intro _ _ h1 h2; simp only [V.ren, V.renL, O.ren, renO, rn, dropK, keys, mem, List.map_cons, List.map_nil, List.any_cons, List.any_nil, List.cons_append, List.nil_append, iD, Nat.reduceBEq, cond_true, cond_false, Bool.or_false, Bool.false_or, Bool.true_or] at h1 h2; subst h1 h2)) | (apply aB (.call { callee := .builtin .append, args := _, argTypes := _ }); refine aD (uS rfl rfl rfl rfl rfl zp hm (aA rfl)) rfl ?_) | apply pA | apply jG | apply oV | apply uH | apply mK | apply jF | apply jE | apply lC | apply mL | apply oZ | (apply aB (.move _); refine aK (lH jf) (aA rfl) ?_) | (apply aB (.assign _); refine aK (hD jf) (aA rfl) ?_) | (apply aB (.call { callee := .builtin .len, args := _, argTypes := _ }); first | refine aK (pT rfl rfl zp) (aA rfl) ?_ | refine aK (nI zx rfl ⟨_, _, _, _, rfl⟩ jj) (aA rfl) ?_ | refine aK (mX rfl rfl ⟨_, _, _, _, rfl⟩) (aA rfl) ?_) | (apply aB (.load _ _); first | refine aK (eP rfl rfl rfl) (aA rfl) ?_ | refine aK (bZ rfl rfl (dJ rfl rfl) rfl) (aA rfl) ?_ | refine aK (bZ rfl rfl rfl rfl) (aA rfl) ?_ | refine aK (dA rfl rfl rfl rfl) (aA rfl) ?_ | refine aK (dB rfl rfl rfl zk rfl) (aA rfl) ?_ | refine aK (gB hE zc rfl rfl) (aA rfl) ?_) | (apply aB (.fieldAddr _ _ _); first | refine aK (aDe rfl rfl rfl) (aA rfl) ?_ | refine aK (wB rfl rfl rfl) (aA rfl) ?_) | (apply aB (.nilCheck _); first | refine aK (tF rfl) (aA rfl) ?_ | refine aK (wC rfl) (aA rfl) ?_) | (apply aB (.store _ _ _); first | refine aD (aN rfl rfl (dR rfl) nofun zk zo (.inl ⟨rfl, rfl⟩) rfl (aC rfl) zk) rfl ?_ | refine aD (aN rfl rfl (dR rfl) nofun zk zo (.inr rfl) rfl (aC rfl) zk) rfl ?_ | refine aD (aN rfl rfl (dM rfl) nofun zk zo (.inl ⟨rfl, rfl⟩) rfl (aC rfl) zk) rfl ?_ | refine aD (aN rfl rfl (hU rfl) nofun zk zo (.inl ⟨rfl, rfl⟩) rfl (aC rfl) zk) rfl ?_) | (apply aB (.call { callee := .builtin .append, args := _, argTypes := _ }); refine aD (cY rfl rfl zx rfl rfl jt zg zf zf (aA rfl)) rfl ?_))
  refine uO (bld (.box 1000 0) (k + 1) (l ++ bytesD s)) (by rfl) (by first | exact ResV.x _ _ (ResX.tmp _ _ zn) | exact ResV.tmp _ _ rfl | exact ResV.x _ _ (ResX.cellA _ _ _ _ _ _ _ rfl rfl rfl zk rfl)) (by first | exact ResV.x _ _ (ResX.tmp _ _ zn) | exact ResV.tmp _ _ rfl | exact ResV.x _ _ (ResX.cellA _ _ _ _ _ _ _ rfl rfl rfl zk rfl)) (⟨rfl, rfl⟩) zw jl
end
section
open Go.RowKit
set_option maxRecDepth 100000 in
theorem aHw (b g cap : Nat) (p : Value) (cur : Array Value) (l : List UInt8) (w : World) (hl : l ≠ []) (hbk : w.heap[b]? = some (.cells #[p, .slice (some ⟨g, 0, none⟩) l.length cap] 244 (0, 0))) (hg : w.heap[g]? = some (.cells cur 5 (0, 0)))
  (hcap : l.length ≤ cap) (hcm : cap ≤ maxLen) (hcs : cur.size = cap) (hcell : ∀ (j : Nat) (x : UInt8), l[j]? = some x → w.cell? ⟨g, j, none⟩ = some (.int .u8 x.toNat)) :
  Calls Tryz.prog 212 #[.pointer (some ⟨b, 0, none⟩)] w fun e w' => e = .returned (.string ⟨l.toArray⟩) ∧ w' = w.drew.freeze ⟨g, 0, none⟩ l.length := by
 have hl0 : l.length ≠ 0 := by simpa using hl
 have c1 : w.drew.cell? ⟨b, 1, none⟩ = some (.slice (some ⟨g, 0, none⟩) l.length cap) := by
  have : w.drew.heap[b]? = some (.cells #[p, .slice (some ⟨g, 0, none⟩) l.length cap] 244 (0, 0)) := hbk
  rw [Lib.cell_of_heap this]; rfl
 have hSD : (Builtin.unsafeSliceData_ #[242] 281 #[.slice (some ⟨g, 0, none⟩) l.length cap]).run Tryz.prog w.drew = .ok (.pointer (some ⟨g, 0, none⟩)) w.drew := Lib.run_unsafeSliceData_row _ _ _ _ _ _ zb
 have hUS : (Builtin.unsafeString_ #[281, 3] 9 #[.pointer (some ⟨g, 0, none⟩), .int .i64 l.length]).run Tryz.prog w.drew = .ok (.string ⟨l.toArray⟩) (w.drew.freeze ⟨g, 0, none⟩ l.length) := by
  refine Lib.run_unsafeString_row w.drew 281 3 9 5 zp zp g cur.size (by have hg' : w.drew.heap[g]? = some (.cells cur 5 (0, 0)) := hg; simp [World.shape?, hg']) l hl zb (by unfold maxLen at hcm; omega) ?_
  intro j x hx
  have := hcell j x hx
  rw [Addr.add_lit, Nat.zero_add]
  exact this
 have mixed : Tryz.prog.follows .mixedOrders = true := gZ
 go_enter Tryz.func212, Tryz.ntmps212
 go_wp2
 go_region_o
 all_goals (go_wp2; go_ret; exact ⟨rfl, rfl⟩)
theorem aEc (w : World) (a : Addr) (n : Nat) (q : Addr) : (w.freeze a n).cell? q = w.cell? q := by
 unfold World.freeze
 by_cases hn : n = 0
 ·rw [if_pos hn]
 ·rw [if_neg hn]
  simp only [World.cell?, Array.getElem?_modify]
  by_cases h : a.block = q.block
  ·rw [if_pos h, ← h]
   cases hw : w.heap[a.block]? with
   | none => rfl
   | some o => cases o <;> rfl
  ·rw [if_neg h]
def byteD (l : List UInt8) : List (List D) := l.map fun c => [.val (.int .u8 c.toNat)]
theorem aKf (l : List UInt8) (s : ByteArray) : byteD l ++ bytesD s = byteD (l ++ s.data.toList) := by simp [byteD, bytesD]
theorem eB (k : Nat) (l : List UInt8) (hl : l ≠ []) : ObC 212 [.box 1000 0] (bld (.box 1000 0) k (byteD l)) [] (fun x o => x = .d (.str ⟨l.toArray⟩) ∧ o = []) := by
 refine ⟨⟨_, Tryz.func212, by decide, rfl⟩, fun w Pr vs β κ hp hE hln hv ho hap => ?_⟩
 match vs, hln with
 | [v], _ =>
  have h1 := hv 0 v _ rfl rfl
  obtain ⟨b, cs, q1, _, q3, q4, q5, q6⟩ := ho 1000 _ rfl
  obtain ⟨hκ, xs, hown, hls, hrp, hpr⟩ := ho 1001 _ rfl
  cases h1 with
  | box _ _ g hb =>
   rw [q1] at hb
   simp only [Value.pointer.injEq, Option.some.injEq, Addr.mk.injEq, and_true] at hb
   subst hb
   match cs, q4 with
   | [c0, c1], _ =>
    have r1 := q5 1 c1 _ rfl rfl
    have hc1 : c1 = β 1001 := r1.row_inv hκ.symm
    have hlen : (byteD l).length = l.length := by simp [byteD]
    rw [hlen] at hown
    rcases hown.2 with ⟨_, h0⟩ | ⟨g, cap, cur, hv1, _, hg, hnc, hcm, hcs, htk⟩
    ·exact absurd (List.eq_nil_of_length_eq_zero h0) hl
    ·rw [hv1] at hc1 hown hpr
     subst hc1
     have hcell : ∀ (j : Nat) (x : UInt8), l[j]? = some x → w.cell? ⟨g, j, none⟩ = some (.int .u8 x.toNat) := by
      intro j x hj
      have hjl : j < l.length := (List.getElem?_eq_some_iff.1 hj).1
      obtain ⟨u, hu, hr⟩ := hrp j 0 [.val (.int .u8 x.toNat)] _ (by simp [byteD, hj]) rfl
      cases hr
      rw [hown.cellAt j zb]
      simpa using hu
     refine (aHw b g cap c0 cur l w hl q3 hg hnc hcm (by simpa using hcs) hcell).mono fun e w' ⟨he, hw⟩ => ?_
     subst hw
     have hst : Stays Pr w (w.drew.freeze ⟨g, 0, none⟩ l.length) := fun b' o _ => by rw [aEc]; rfl
     have hsz : (w.drew.freeze ⟨g, 0, none⟩ l.length).heap.size = w.heap.size := by
      unfold World.freeze
      split
      ·rfl
      ·simp only [Array.size_modify]
       rfl
     refine ⟨_, _, [], Pr, β, κ, he, ⟨rfl, rfl⟩, ⟨?_, ?_, ?_, by omega, fun j hj hn => ?_⟩, hst, fun _ _ h => h, fun _ _ h => .inl h, fun b' o h => by rw [hsz]; exact hp b' o h, .d _ _ (.val _), fun i o h => by simp [find] at h, fun i j oi oj g h => by simp [find] at h, fun i o g h => by simp [find] at h, fun _ _ _ => .inl ⟨rfl, rfl⟩, rfl, fun i o h => by simp [find] at h⟩
     ·unfold World.freeze; split <;> rfl
     ·unfold World.freeze; split <;> rfl
     ·unfold World.freeze; split <;> rfl
     ·have hne : j ≠ g := fun e => hn ⟨1001, _, rfl, by rw [hv1, e]; rfl⟩
      unfold World.freeze
      split
      ·rfl
      ·simp only [Array.getElem?_modify]
       rw [if_neg (Ne.symm hne)]
       rfl
theorem bH (used : Bool) (k : Nat) (l : List UInt8) (s : ByteArray) (hm : l.length + s.size ≤ 140737488355328) : ObC 210 [.box 1000 0, .d (.str s)] (bld (bldA used) k (byteD l)) [] (fun x o => x = .tup [.d (.int s.size), .d (.val .nilIface)] ∧ o = bld (.box 1000 0) (k + 1) (byteD (l ++ s.data.toList))) :=
 (uY used k (byteD l) s (by simpa [byteD] using hm)).mono fun x o h => by rw [← aKf]; exact h
end
section
open Go.RowKit
def listB {α : Type} (n : Nat) (one : α → ByteArray) (l : List α) : List UInt8 := (itoaB n ++ ⟨#[91]⟩).data.toList ++ (l.map fun x => (one x).data.toList).flatten
def listW {α : Type} (one : α → ByteArray) (l : List α) : ByteArray := ⟨(listB l.length one l).toArray⟩ ++ ⟨#[93]⟩
theorem aHa {α : Type} {n j : Nat} {one : α → ByteArray} {l : List α} (h : j < l.length) : listB n one (l.take (j + 1)) = listB n one (l.take j) ++ (one l[j]).data.toList := by
 unfold listB
 rw [List.take_add_one, List.getElem?_eq_getElem h]
 simp only [Option.toList_some, List.map_append, List.map_cons, List.map_nil, List.flatten_append, List.flatten_cons, List.flatten_nil, List.append_nil, List.append_assoc]
theorem aLe {α : Type} {n : Nat} {one : α → ByteArray} {l : List α} : listB n one l ≠ [] := by
 intro h
 have h2 := congrArg List.length h
 have z1 : (itoaB n ++ ⟨#[91]⟩).size = (itoaB n).size + ByteArray.size ⟨#[91]⟩ := ByteArray.size_append
 have z2 : ByteArray.size ⟨#[91]⟩ = 1 := rfl
 have h3 : (itoaB n ++ ⟨#[91]⟩).data.toList.length = (itoaB n ++ ⟨#[91]⟩).size := Array.length_toList
 unfold listB at h2
 rw [List.length_append, List.length_nil] at h2
 omega
attribute [local irreducible] itoaB listB
theorem aLd {α : Type} (n : Nat) (one : α → ByteArray) (B : Nat) (l : List α) (hn : n ≤ 1000000) (h : ∀ x ∈ l, (one x).size ≤ B) : (listB n one l).length ≤ 21 + B * l.length := by
 have hz := pF n zb zb
 have z1 : (itoaB n ++ ⟨#[91]⟩).size = (itoaB n).size + 1 := ByteArray.size_append
 have h0 : (itoaB n ++ ⟨#[91]⟩).data.toList.length ≤ 21 := by
  have : (itoaB n ++ ⟨#[91]⟩).data.toList.length = (itoaB n ++ ⟨#[91]⟩).size := Array.length_toList
  omega
 have h1 : (l.map fun x => (one x).data.toList).flatten.length ≤ B * l.length := by
  clear h0 z1 hz
  induction l with
  | nil => simp
  | cons x l ih =>
   have h2 := h x (by simp)
   have h3 := ih (fun y hy => h y (by simp [hy]))
   have h4 : (one x).data.toList.length = (one x).size := Array.length_toList
   simp only [List.map_cons, List.flatten_cons, List.length_append, List.length_cons, Nat.mul_add, Nat.mul_one]
   omega
 unfold listB
 rw [List.length_append]
 omega
theorem totI (n : Nat) (l : List Int) (h : ∀ x ∈ l, -9223372036854775808 ≤ x ∧ x ≤ 9223372036854775807) (hl : l.length ≤ 1000000) : (listB (min n 1000000) intW l).length ≤ 21000021 := by
 have := aLd (min n 1000000) intW 21 l zb (fun x hx => aEi x (h x hx))
 omega
theorem aBu (l : List Int) (hl : l.length ≤ 1000000) (hb : ∀ n ∈ l, -9223372036854775808 ≤ n ∧ n ≤ 9223372036854775807) : PureC 213 [.list 1 (l.map fun n => [.int n]), .val (.func (.func 106) #[] #[])] (· = .str (listW intW l)) := by
 have tot : ∀ (n : Nat) (m : List Int), (∀ x ∈ m, -9223372036854775808 ≤ x ∧ x ≤ 9223372036854775807) → m.length ≤ l.length → (listB l.length intW m).length ≤ 21000021 := fun n m h1 h2 => by
  have := totI l.length m h1 zb
  rwa [Nat.min_eq_left hl] at this
 have hwz := aEi
 have hz := pF l.length zb zb
 have hs1 : ByteArray.size ⟨#[91]⟩ = 1 := rfl
 have hs3 : ByteArray.size ⟨#[93]⟩ = 1 := rfl
 have z1 : (itoaB l.length ++ ⟨#[91]⟩).size = (itoaB l.length).size + 1 := ByteArray.size_append
 have hl0 : listB l.length intW (l.take 0) = [] ++ (itoaB l.length ++ ⟨#[91]⟩).data.toList := by
  unfold listB
  simp only [List.take_zero, List.map_nil, List.flatten_nil, List.append_nil, List.nil_append]
 refine aE Tryz.func213 rfl zg _ Tryz.ntmps213 (aC rfl) (fun w Pr hE => ?_)
 dsimp only [slotsOf, Nat.zero_add, Nat.reduceAdd]
 repeat' (first | apply pA | apply jG | apply oV | apply uH | apply mK | apply jF | apply jE | apply lM | (apply cK; decide) | apply lL | apply oX | apply oY | apply lC | apply mL | apply oZ | (apply aB (.move _); refine aK (lH jf) (aA rfl) ?_) | (apply aB (.assign _); refine aK (hD jf) (aA rfl) ?_) | (apply vI; first | refine gI rfl jw ?_ | refine gH rfl jw ?_ | refine gI rfl jb ?_ | refine gH rfl jb ?_ | (refine oB rfl (fun hb => ?_) (fun hb => ?_) <;> ((first | have hq := of_decide_eq_true hb | have hq := of_decide_eq_false hb | have hq := of_decide_eq_false (aAg hb) | have hq := of_decide_eq_true (aAf hb) | skip); (try (exfalso; omega))))) | (apply aB (.binOp .lss _ _ _ _); refine aK (aBb rfl rfl) (aA rfl) ?_) | (apply aB (.binOp .add _ _ _ _); first | refine aK (aBa rfl rfl zb) (aA rfl) ?_ | refine aK (uF rfl rfl zb) (aA rfl) ?_) | (apply aB (.call { callee := .builtin .len, args := _, argTypes := _ }); first | refine aK (pT rfl rfl zp) (aA rfl) ?_ | refine aK (nI zx rfl ⟨_, _, _, _, rfl⟩ jj) (aA rfl) ?_ | refine aK (mX rfl rfl ⟨_, _, _, _, rfl⟩) (aA rfl) ?_) | (apply aB (.indexAddr _ _ _); first | refine aK (cT zx rfl rfl zq (bC zb)) (aA rfl) ?_ | refine aS rfl ?_ | refine aK (mG rfl rfl rfl zq zb jd) (aA rfl) ?_) | (apply aB (.load _ _); first | refine aK (eP rfl rfl rfl) (aA rfl) ?_ | refine aK (bZ rfl rfl (dJ rfl rfl) rfl) (aA rfl) ?_ | refine aK (bZ rfl rfl rfl rfl) (aA rfl) ?_ | refine aK (dA rfl rfl rfl rfl) (aA rfl) ?_ | refine aK (dB rfl rfl rfl zk rfl) (aA rfl) ?_ | refine aK (gB hE zc rfl rfl) (aA rfl) ?_) | (apply aB (.alloc _); refine aD (eI rfl zk rfl (aA rfl) rfl) rfl ?_))
 refine eV 5 1 6 5 1 rfl rfl rfl (aA rfl) rfl rfl ?_
 repeat' (first | (apply aB (.call { callee := .value _, args := _, argTypes := _ }); refine vA (nP l.length zb zb) rfl hE (aA rfl) (by (first | exact (ArgsD.cons zn ArgsD.nil) | exact (ArgsD.cons zn (ArgsD.cons zn ArgsD.nil)))) ?_; (all_goals (try first | omega | assumption)); rintro _ rfl) | (apply aB (.call { callee := .value _, args := _, argTypes := _ }); refine nJ [(1000, 5), (1001, 6)] (bH false 0 [] (itoaB l.length ++ ⟨#[91]⟩) jv) rfl hE (aA rfl) (by (repeat (first | refine ArgsV.cons (.same _ _ rfl) ?_ | refine ArgsV.cons (.toD _ _ zn) ?_)); exact ArgsV.nil) ⟨(bY rfl (bY rfl cU)), rfl, rfl, rfl, rfl⟩ ?_; (all_goals (try first | omega | assumption)); rw [← hl0]; rintro _ _ ⟨rfl, rfl⟩ <;> (intro _ _ h1 h2; simp only [V.ren, V.renL, O.ren, renO, rn, dropK, keys, mem, List.map_cons, List.map_nil, List.any_cons, List.any_nil, List.cons_append, List.nil_append, iD, Nat.reduceBEq, cond_true, cond_false, Bool.or_false, Bool.false_or, Bool.true_or] at h1 h2; subst h1 h2)) | apply pA | apply jG | apply oV | apply uH | apply mK | apply jF | apply jE | apply lM | (apply cK; decide) | apply lL | apply oX | apply oY | apply lC | apply mL | apply oZ | (apply aB (.move _); refine aK (lH jf) (aA rfl) ?_) | (apply aB (.assign _); refine aK (hD jf) (aA rfl) ?_) | (apply vI; first | refine gI rfl jw ?_ | refine gH rfl jw ?_ | refine gI rfl jb ?_ | refine gH rfl jb ?_ | (refine oB rfl (fun hb => ?_) (fun hb => ?_) <;> ((first | have hq := of_decide_eq_true hb | have hq := of_decide_eq_false hb | have hq := of_decide_eq_false (aAg hb) | have hq := of_decide_eq_true (aAf hb) | skip); (try (exfalso; omega))))) | (apply aB (.binOp .lss _ _ _ _); refine aK (aBb rfl rfl) (aA rfl) ?_) | (apply aB (.binOp .add _ _ _ _); first | refine aK (aBa rfl rfl zb) (aA rfl) ?_ | refine aK (uF rfl rfl zb) (aA rfl) ?_) | (apply aB (.call { callee := .builtin .len, args := _, argTypes := _ }); first | refine aK (pT rfl rfl zp) (aA rfl) ?_ | refine aK (nI zx rfl ⟨_, _, _, _, rfl⟩ jj) (aA rfl) ?_ | refine aK (mX rfl rfl ⟨_, _, _, _, rfl⟩) (aA rfl) ?_) | (apply aB (.indexAddr _ _ _); first | refine aK (cT zx rfl rfl zq (bC zb)) (aA rfl) ?_ | refine aS rfl ?_ | refine aK (mG rfl rfl rfl zq zb jd) (aA rfl) ?_) | (apply aB (.load _ _); first | refine aK (eP rfl rfl rfl) (aA rfl) ?_ | refine aK (bZ rfl rfl (dJ rfl rfl) rfl) (aA rfl) ?_ | refine aK (bZ rfl rfl rfl rfl) (aA rfl) ?_ | refine aK (dA rfl rfl rfl rfl) (aA rfl) ?_ | refine aK (dB rfl rfl rfl zk rfl) (aA rfl) ?_ | refine aK (gB hE zc rfl rfl) (aA rfl) ?_) | (apply aB (.alloc _); refine aD (eI rfl zk rfl (aA rfl) rfl) rfl ?_))
 refine rP (fun N sl ob => ∃ j k : Nat, N = l.length - j ∧ j ≤ l.length ∧ sl = [(15, .d (.int j)), (14, .d (.int l.length)), (13, .d (.list 1 (l.map fun n => [D.int n]))), (5, .box 5 0), (1, .d (.val (.func (.func 106) #[] #[])))] ∧ ob = [(5, .box 244 [.box 5 0, .row 6 k]), (6, .row 5 1 k (byteD (listB l.length intW (l.take j))))]) (_) _ _ (⟨0, 1, rfl, Nat.zero_le _, rfl, rfl⟩) ?_ ?_ ?_
 ·(repeat (first | exact kO | (apply iV; focus (first | rfl | exact yZ (by first | omega) | (simp [look]; done)))))
 ·(repeat (first | exact cU | (apply bY; focus (first | rfl | (simp [find]; done)))))
 rintro N sl ob ⟨j, k, rfl, hj, rfl, rfl⟩
 have hbz := tot l.length (l.take j) (fun x hx => hb x (List.mem_of_mem_take hx)) jv
 by_cases hlt : j < l.length
 ·have hlj := hb l[j] (List.getElem_mem hlt)
  have hwz2 := hwz l[j] hlj
  repeat' (first | (apply aB (.call { callee := .value _, args := _, argTypes := _ }); refine vA (uE l[j] zb zb) rfl hE (aA rfl) (by (first | exact (ArgsD.cons zn ArgsD.nil) | exact (ArgsD.cons zn (ArgsD.cons zn ArgsD.nil)))) ?_; (all_goals (try first | omega | assumption)); rintro _ rfl) | (apply aB (.call { callee := .value _, args := _, argTypes := _ }); refine nJ [(1000, 5), (1001, 6)] (bH true k (listB l.length intW (l.take j)) (intW l[j]) zb) rfl hE (aA rfl) (by (repeat (first | refine ArgsV.cons (.same _ _ rfl) ?_ | refine ArgsV.cons (.toD _ _ zn) ?_)); exact ArgsV.nil) ⟨(bY rfl (bY rfl cU)), rfl, rfl, rfl, rfl⟩ ?_; (all_goals (try first | omega | assumption)); rw [← aHa hlt]; rintro _ _ ⟨rfl, rfl⟩ <;> (intro _ _ h1 h2; simp only [V.ren, V.renL, O.ren, renO, rn, dropK, keys, mem, List.map_cons, List.map_nil, List.any_cons, List.any_nil, List.cons_append, List.nil_append, iD, Nat.reduceBEq, cond_true, cond_false, Bool.or_false, Bool.false_or, Bool.true_or] at h1 h2; subst h1 h2)) | apply pA | apply jG | apply oV | apply uH | apply mK | apply jF | apply jE | apply lM | (apply cK; decide) | apply lL | apply oX | apply oY | apply lC | apply mL | apply oZ | (apply aB (.move _); refine aK (lH jf) (aA rfl) ?_) | (apply aB (.assign _); refine aK (hD jf) (aA rfl) ?_) | (apply vI; first | refine gI rfl jw ?_ | refine gH rfl jw ?_ | refine gI rfl jb ?_ | refine gH rfl jb ?_ | (refine oB rfl (fun hb => ?_) (fun hb => ?_) <;> ((first | have hq := of_decide_eq_true hb | have hq := of_decide_eq_false hb | have hq := of_decide_eq_false (aAg hb) | have hq := of_decide_eq_true (aAf hb) | skip); (try (exfalso; omega))))) | (apply aB (.binOp .lss _ _ _ _); refine aK (aBb rfl rfl) (aA rfl) ?_) | (apply aB (.binOp .add _ _ _ _); first | refine aK (aBa rfl rfl zb) (aA rfl) ?_ | refine aK (uF rfl rfl zb) (aA rfl) ?_) | (apply aB (.call { callee := .builtin .len, args := _, argTypes := _ }); first | refine aK (pT rfl rfl zp) (aA rfl) ?_ | refine aK (nI zx rfl ⟨_, _, _, _, rfl⟩ jj) (aA rfl) ?_ | refine aK (mX rfl rfl ⟨_, _, _, _, rfl⟩) (aA rfl) ?_) | (apply aB (.indexAddr _ _ _); first | refine aK (cT zx rfl rfl zq (bC zb)) (aA rfl) ?_ | refine aS rfl ?_ | refine aK (mG rfl rfl rfl zq zb jd) (aA rfl) ?_) | (apply aB (.load _ _); first | refine aK (eP rfl rfl rfl) (aA rfl) ?_ | refine aK (bZ rfl rfl (dJ rfl rfl) rfl) (aA rfl) ?_ | refine aK (bZ rfl rfl rfl rfl) (aA rfl) ?_ | refine aK (dA rfl rfl rfl rfl) (aA rfl) ?_ | refine aK (dB rfl rfl rfl zk rfl) (aA rfl) ?_ | refine aK (gB hE zc rfl rfl) (aA rfl) ?_) | (apply aB (.alloc _); refine aD (eI rfl zk rfl (aA rfl) rfl) rfl ?_))
  refine rL _ _ _ (⟨j + 1, k + 1, rfl, by omega, rfl, rfl⟩) zb ?_ ?_
  ·(repeat (first | exact kO | (apply iV; focus (first | rfl | exact yZ (by first | omega) | (simp [look]; done)))))
  ·(repeat (first | exact cU | (apply bY; focus (first | rfl | (simp [find]; done)))))
 ·have hlf : listB l.length intW (l.take j) = listB l.length intW l := by rw [List.take_of_length_le zb]
  rw [hlf] at hbz ⊢
  have hsz : ByteArray.size ⟨(listB l.length intW l).toArray⟩ = (listB l.length intW l).length := List.size_toArray
  repeat' (first | (apply aB (.call { callee := .value _, args := _, argTypes := _ }); refine nJ [(1000, 5), (1001, 6)] (eB k (listB l.length intW l) aLe) rfl hE (aA rfl) (by (repeat (first | refine ArgsV.cons (.same _ _ rfl) ?_ | refine ArgsV.cons (.toD _ _ zn) ?_)); exact ArgsV.nil) ⟨(bY rfl (bY rfl cU)), rfl, rfl, rfl, rfl⟩ ?_; (all_goals (try first | omega | assumption)); rintro _ _ ⟨rfl, rfl⟩ <;> (intro _ _ h1 h2; simp only [V.ren, V.renL, O.ren, renO, rn, dropK, keys, mem, List.map_cons, List.map_nil, List.any_cons, List.any_nil, List.cons_append, List.nil_append, iD, Nat.reduceBEq, cond_true, cond_false, Bool.or_false, Bool.false_or, Bool.true_or] at h1 h2; subst h1 h2)) | apply pA | apply jG | apply oV | apply uH | apply mK | apply jF | apply jE | apply lM | (apply cK; decide) | apply lL | apply oX | apply oY | apply lC | apply mL | apply oZ | (apply aB (.move _); refine aK (lH jf) (aA rfl) ?_) | (apply aB (.assign _); refine aK (hD jf) (aA rfl) ?_) | (apply vI; first | refine gI rfl jw ?_ | refine gH rfl jw ?_ | refine gI rfl jb ?_ | refine gH rfl jb ?_ | (refine oB rfl (fun hb => ?_) (fun hb => ?_) <;> ((first | have hq := of_decide_eq_true hb | have hq := of_decide_eq_false hb | have hq := of_decide_eq_false (aAg hb) | have hq := of_decide_eq_true (aAf hb) | skip); (try (exfalso; omega))))) | (apply aB (.binOp .lss _ _ _ _); refine aK (aBb rfl rfl) (aA rfl) ?_) | (apply aB (.binOp .add _ _ _ _); first | refine aK (aBa rfl rfl zb) (aA rfl) ?_ | refine aK (uF rfl rfl zb) (aA rfl) ?_) | (apply aB (.call { callee := .builtin .len, args := _, argTypes := _ }); first | refine aK (pT rfl rfl zp) (aA rfl) ?_ | refine aK (nI zx rfl ⟨_, _, _, _, rfl⟩ jj) (aA rfl) ?_ | refine aK (mX rfl rfl ⟨_, _, _, _, rfl⟩) (aA rfl) ?_) | (apply aB (.indexAddr _ _ _); first | refine aK (cT zx rfl rfl zq (bC zb)) (aA rfl) ?_ | refine aS rfl ?_ | refine aK (mG rfl rfl rfl zq zb jd) (aA rfl) ?_) | (apply aB (.load _ _); first | refine aK (eP rfl rfl rfl) (aA rfl) ?_ | refine aK (bZ rfl rfl (dJ rfl rfl) rfl) (aA rfl) ?_ | refine aK (bZ rfl rfl rfl rfl) (aA rfl) ?_ | refine aK (dA rfl rfl rfl rfl) (aA rfl) ?_ | refine aK (dB rfl rfl rfl zk rfl) (aA rfl) ?_ | refine aK (gB hE zc rfl rfl) (aA rfl) ?_) | (apply aB (.alloc _); refine aD (eI rfl zk rfl (aA rfl) rfl) rfl ?_))
  refine rt1 ?_
  rfl
attribute [local irreducible] listW
theorem aMk (l : List Int) (hl : l.length ≤ 1000000) (hb : ∀ n ∈ l, -9223372036854775808 ≤ n ∧ n ≤ 9223372036854775807) : PureC 90 [.list 1 (l.map fun n => [.int n])] (· = .str (listW intW l)) := by
 refine aE Tryz.func90 rfl zg _ Tryz.ntmps90 (aC rfl) (fun w Pr hE => ?_)
 dsimp only [slotsOf, Nat.zero_add, Nat.reduceAdd]
 repeat' (first | (apply aB (.call { callee := .value _, args := _, argTypes := _ }); refine vA (aBu l hl hb) rfl hE (aA rfl) (by exact (ArgsD.cons zn (ArgsD.cons zn ArgsD.nil))) ?_; (all_goals (try first | omega | assumption)); rintro _ rfl) | apply pA | apply jG | apply oV | apply uH | apply mK | apply jF | apply jE | apply lC | apply mL | apply oZ | (apply aB (.move _); refine aK (lH jf) (aA rfl) ?_) | (apply aB (.assign _); refine aK (hD jf) (aA rfl) ?_))
 refine rt1 ?_
 rfl
end
section
open Go.RowKit
section
variable {α : Type} {one : ByteArray → Bool → RS α} {W : α → ByteArray} {ok : α → Prop}
def flat8 (W : α → ByteArray) (l : List α) : List UInt8 := (l.map fun x => L (W x)).flatten
theorem vQ (l : List α) : L (listW W l) = Lib.itoa l.length ++ 91 :: (flat8 W l ++ [93]) := by
 rw [listW, kR]
 show listB l.length W l ++ [93] = _
 unfold listB flat8
 have : (itoaB l.length ++ ⟨#[91]⟩).data.toList = Lib.itoa l.length ++ [91] := kR _ _
 rw [this]
 simp
theorem aOj (H : ∀ x r t, ok x → L r = L (W x) ++ t → one r false = ⟨x, B t, false⟩) : ∀ (l out : List α) (r : ByteArray) (t : List UInt8), (∀ x ∈ l, ok x) → L r = flat8 W l ++ t → itemsL one l.length r false out = ⟨out ++ l, B t, false⟩ := by
 intro l
 induction l with
 | nil =>
  intro out r t _ h
  have : r = B t := mZ h
  simp [itemsL, this]
 | cons x l ih =>
  intro out r t hk h
  have h1 := H x r (flat8 W l ++ t) (hk x (by simp)) (by rw [h]; simp [flat8])
  simp only [List.length_cons, itemsL, h1]
  rw [if_neg (by simp), ih _ _ t (fun y hy => hk y (by simp [hy])) rfl]
  simp
theorem aKw (H : ∀ x r t, ok x → L r = L (W x) ++ t → one r false = ⟨x, B t, false⟩) {l : List α} {r : ByteArray} {t : List UInt8} (hk : ∀ x ∈ l, ok x) (hl : l.length ≤ 1000000) (h : L r = L (listW W l) ++ t) : itemsS one r false = ⟨l, B t, false⟩ := by
 have h1 : numS r false 91 0 = ⟨l.length, B (flat8 W l ++ (93 :: t)), false⟩ := by
  refine aBz sep91 ?_ ⟨by omega, by omega⟩ zb
  rw [h, vQ]
  simp
 have h2 := aOj H l [] (B (flat8 W l ++ (93 :: t))) (93 :: t) hk rfl
 have h3 : closeS (B (93 :: t)) false ⟨#[93]⟩ = (B t, false) := zN rfl
 unfold itemsS
 simp only [h1, Int.toNat_natCast, h2, h3]
 rfl
end
end
section
open Go.RowKit
structure Val where
 k : Int
 n : Int
 s : ByteArray
 l : List Int
 t : List ByteArray
def Val.cells (v : Val) : List D := [.int v.k, .int v.n, .str v.s, .list 1 (v.l.map fun n => [.int n]), .list 1 (v.t.map fun s => [.str s])]
def kindV (k : Int) : Int := if k.tmod 5 < 0 then k.tmod 5 + 5 else k.tmod 5
def absV (n : Int) : Int := if n < 0 then 0 - (n + 1) else n
theorem dec1 {u : Nat} (h : u < 10) : Lib.decDigits u = [UInt8.ofNat (48 + u)] := by rw [Lib.decDigits, dif_pos h]
theorem it (n : Nat) (h : n < 10) : Lib.itoa (n : Int) = [UInt8.ofNat (48 + n)] := by
 unfold Lib.itoa
 rw [if_neg zb, Int.toNat_natCast, dec1 h]
theorem i1 : Lib.itoa 1 = [49] := it 1 zg
attribute [local irreducible] numW intW textW listW numS
end
section
open Go.RowKit
def Val.ok (v : Val) : Prop := isInt v.k ∧ isInt v.n ∧ ∀ n ∈ v.l, isInt n
def Val.few (v : Val) : Prop := v.l.length ≤ 400 ∧ v.t.length ≤ 400 ∧ v.s.size ≤ 400 ∧ ∀ s ∈ v.t, s.size ≤ 400
def writeW (v : Val) : ByteArray :=
 if kindV v.k = 0 then numW (absV v.n) else if kindV v.k = 1 then intW v.n else if kindV v.k = 2 then textW v.s else if kindV v.k = 3 then listW intW v.l else listW textW v.t
attribute [local irreducible] kindV absV numW intW textW listW
noncomputable def readV (v : Val) (r : ByteArray) (b : Bool) : Bool × ByteArray × Bool :=
 if kindV v.k = 0 then (decide ((numS r b 59 0).v = absV v.n), (numS r b 59 0).r, (numS r b 59 0).b)
 else if kindV v.k = 1 then (decide ((numS r b 59 (-9223372036854775808)).v = v.n), (numS r b 59 (-9223372036854775808)).r, (numS r b 59 (-9223372036854775808)).b)
 else if kindV v.k = 2 then (decide ((textS r b).v = v.s), (textS r b).r, (textS r b).b)
 else if kindV v.k = 3 then (decide ((itemsS oneInt r b).v = v.l), (itemsS oneInt r b).r, (itemsS oneInt r b).b)
 else (decide ((itemsS oneText r b).v = v.t), (itemsS oneText r b).r, (itemsS oneText r b).b)
attribute [local irreducible] numS textS itemsS
theorem aGy {α : Type} (one : ByteArray → Bool → RS α) (H : ∀ r, ((one r false).b = false ∧ (one r false).r.size < r.size) ∨ (one r false).b = true ∧ (one r false).r.size ≤ r.size) : ∀ (k : Nat) (r : ByteArray) (b : Bool) (out : List α), (itemsL one k r b out).v.length ≤ out.length + r.size + 1 := by
 intro k
 induction k with
 | zero => intro r b out; simp only [itemsL]; omega
 | succ k ih =>
  intro r b out
  cases b with
  | true => simp only [itemsL, if_true]; omega
  | false =>
   simp only [itemsL, Bool.false_eq_true, if_false]
   rcases H r with ⟨h1, h2⟩ | ⟨h1, h2⟩
   ·have := ih (one r false).r (one r false).b (out ++ [(one r false).v])
    simp only [List.length_append, List.length_cons, List.length_nil] at this
    omega
   ·rw [h1]
    have : (itemsL one k (one r false).r true (out ++ [(one r false).v])) = ⟨out ++ [(one r false).v], (one r false).r, true⟩ := by cases k <;> rfl
    rw [this]
    simp only [List.length_append, List.length_cons, List.length_nil]
    omega
theorem aGz {α : Type} (one : ByteArray → Bool → RS α) (H : ∀ r, ((one r false).b = false ∧ (one r false).r.size < r.size) ∨ (one r false).b = true ∧ (one r false).r.size ≤ r.size) (r : ByteArray) (b : Bool) : (itemsS one r b).v.length ≤ r.size + 1 := by
 unfold itemsS
 dsimp only
 split
 ·simp
 ·have h1 := aGy one H (numS r b 91 0).v.toNat (numS r b 91 0).r (numS r b 91 0).b []
  have h2 := cJ (r := r) (b := b) (c := 91) (least := 0)
  simp only [List.length_nil] at h1
  omega
end
section
open Go.RowKit
def sumT : List ByteArray → Nat
 | [] => 0
 | s :: r => s.size + sumT r
def tot1 (v : Val) : Nat := v.s.size + v.l.length + v.t.length + sumT v.t
def tot : List Val → Nat
 | [] => 0
 | v :: r => tot1 v + tot r
def Few (l : List Val) : Prop := l.length ≤ 20 ∧ (∀ v ∈ l, v.few) ∧ tot l ≤ 400
open Classical in
noncomputable def fewV (l : List Val) : Bool := decide (Few l)
end
section

end
section
noncomputable def againV (k : Int) (r : ByteArray) : ByteArray × ByteArray × Bool :=
 if k = 0 then (numW (numS r false 59 0).v, (numS r false 59 0).r, (numS r false 59 0).b)
 else if k = 1 then (intW (numS r false 59 (-9223372036854775808)).v, (numS r false 59 (-9223372036854775808)).r, (numS r false 59 (-9223372036854775808)).b)
 else if k = 2 then (textW (textS r false).v, (textS r false).r, (textS r false).b)
 else if k = 3 then (listW intW (itemsS oneInt r false).v, (itemsS oneInt r false).r, (itemsS oneInt r false).b)
 else (listW textW (itemsS oneText r false).v, (itemsS oneText r false).r, (itemsS oneText r false).b)
theorem aGa (r : ByteArray) (b : Bool) : (textS r b).v.size ≤ r.size := by
 have h1 := cJ (r := r) (b := b) (c := 58) (least := 0)
 unfold textS
 dsimp only
 split
 ·exact Nat.zero_le _
 ·dsimp only
  split
  ·exact Nat.zero_le _
  ·simp only [ByteArray.size_extract]
   omega
end
section
theorem aTh {l : List Int} {r : ByteArray} {t : List UInt8} (hk : ∀ x ∈ l, isInt x) (hl : l.length ≤ 1000000) (h : L r = L (listW intW l) ++ t) : itemsS oneInt r false = ⟨l, B t, false⟩ :=
 aKw (one := oneInt) (W := intW) (ok := isInt) (fun x r t hx h => aGu h hx hx.1) hk hl h
theorem rX {n : Int} (h : isInt n) : (intW n).size ≤ 21 := by
 have h1 := mN h
 rw [← jD, iN]
 simp only [List.length_append, List.length_cons, List.length_nil]
 omega
end
end Go.Proofs.YtaodngiigdbgeaaGreatDoor
