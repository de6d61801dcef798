/-
  Conditions: none.
-/
import Derived.Test.YtgiacdhffklenaaMau
set_option maxHeartbeats 16000000
set_option maxRecDepth 20000
section
set_option linter.unusedSimpArgs false
set_option linter.unusedVariables false
namespace Go.Proofs.Ytgiacdhffklenaa
open Go.RowKit
theorem rtable_any (op : Int) (l : List Int) (hl : l.length ≤ 100000) (h : (op = 12 ∨ op = 13 ∨ op = 14) ∨ (op = 15 ∧ l.length = 3) ∨ ((4 ≤ op ∧ op ≤ 11) ∧ l.length = 2)) : PureC 45 [.int op, intsD l] (· = .int (joinU op l)) := by
 rcases h with h | ⟨rfl, h3⟩ | ⟨⟨h1, h2⟩, h3⟩
 ·exact rlogic_any op l hl h
 ·match l, h3 with
  | [a, b, c], _ => exact rif_any a b c
 ·match l, h3 with
  | [a, b], _ => exact rpair_any op a b h1 h2
def valD : UR → D
 | .ok u => .agg [.int u, .list 1 [], .int 0]
 | .bad p c => .agg [.int 0, intsD p, .int c]
abbrev valZ : O := .box 66 [.d (.int 0), .d (.val (.slice none 0 0)), .d (.int 0)]
abbrev NodeC (d : Nat) : Prop := ∀ (sc : List (ByteArray × Int)) (e : Ex), Scope4 sc → sc.length ≤ 1000 → e.right d = true → e.wide → PureC 35 [strsD (sc.map (·.1)), intsD (sc.map (·.2)), .agg (exC e)] (· = valD (e.unitU sc))
theorem scope_first {sc : List (ByteArray × Int)} {s : ByteArray} {i : Nat} (h : i < sc.length) (hn : ∀ q ∈ sc.take i, q.1 ≠ s) (he : sc[i].1 = s) : scopeU sc s = sc[i].2 := by
 induction sc generalizing i with
 | nil => simp at h
 | cons q r ih =>
  unfold scopeU
  cases i with
  | zero =>
   rw [List.find?_cons_of_pos (by simpa using he)]
   rfl
  | succ i =>
   rw [List.find?_cons_of_neg (by simpa using hn q (by simp))]
   exact ih (i := i) (by simpa using h) (fun p hp => hn p (by simp [hp])) he
theorem take_ne {sc : List (ByteArray × Int)} {s : ByteArray} {i : Nat} (h : i < sc.length) (hn : ∀ q ∈ sc.take i, q.1 ≠ s) (he : sc[i].1 ≠ s) : ∀ q ∈ sc.take (i + 1), q.1 ≠ s := by
 intro q hq
 rw [List.take_succ_eq_append_getElem h, List.mem_append, List.mem_singleton] at hq
 rcases hq with hq | rfl
 ·exact hn q hq
 ·exact he
theorem right_ops {e : Ex} {d : Nat} (h : e.right (d + 1) = true) (h0 : e.op ≠ 0) (h1 : e.op ≠ 1) (h2 : e.op ≠ 2) (h3 : e.op ≠ 3) : (e.op = 12 ∨ e.op = 13 ∨ e.op = 14) ∨ (e.op = 15 ∧ e.args.length = 3) ∨ ((4 ≤ e.op ∧ e.op ≤ 11) ∧ e.args.length = 2) := by
 rcases right_shape h with ⟨n, u, rfl, _⟩ | ⟨op, s, ho, rfl, _⟩ | ⟨x, rfl, hx⟩ | ⟨x, y, z, rfl, hx, hy, hz⟩ | ⟨op, x, y, ho, rfl, hx, hy⟩ | ⟨op, x, y, t, g, ho, rfl, hx, hy⟩
 ·exact absurd rfl h0
 ·simp only [Ex.op] at h1 h2 h3; omega
 ·exact .inl (.inl rfl)
 ·exact .inr (.inl ⟨rfl, rfl⟩)
 ·simp only [two, Ex.op] at h0 h1 h2 h3
  exact .inr (.inr ⟨by simp only [two, Ex.op]; omega, rfl⟩)
 ·rcases opInfo_cases ho with ⟨rfl, _⟩ | ⟨rfl, _⟩ | ⟨rfl, _⟩ | ⟨rfl, _⟩ | ⟨rfl, _⟩ | ⟨rfl, _⟩ | ⟨rfl, _⟩ | ⟨rfl, _⟩ <;> first | exact .inl (.inl rfl) | exact .inl (.inr (.inl rfl)) | exact .inl (.inr (.inr rfl)) | exact .inr (.inr ⟨⟨by simp [two, Ex.op], by simp [two, Ex.op]⟩, rfl⟩)
theorem rnode_any : ∀ d, d ≤ 1000 → NodeC d
 | 0 => fun _ sc e hs hl hr => by rw [right_zero] at hr; cases hr
 | d + 1 => fun hd sc e hs hl hr ht => by
  have ih := rnode_any d (by omega)
  obtain ⟨hleaf, hargs⟩ := right_args hr
  have hu := unit_eq sc e
  have hlen := rows_len e.args
  have hal := wide_len ht
  by_cases h0 : e.op = 0
  ·rw [if_pos h0] at hu
   rw [hu]
   have q0 : decide (e.op = 0) = true := decide_eq_true h0
   refine pure_enter Try.func35 rfl (by decide) _ Try.ntmps35 (le_ok rfl) (fun w Pr hE => ?_)
   dsimp only [slotsOf, Nat.zero_add, Nat.reduceAdd]
   repeat' (first | refine nx ?_ | (apply aq_block_y; decide) | (apply qr_assign; refine r_assign ?_) | (apply at_cond; first | refine c_t ?_ | refine c_f ?_ | (refine aw_cond rfl (fun hb => ?_) (fun hb => ?_) <;> ((try have hq := dX hb); (try (exfalso; omega))))) | (apply qr_eql; refine r_eql ?_) | (apply qr_load; refine r_load ?_) | (apply qr_faddr; refine r_faddr ?_) | (apply qr_alloc; refine r_alloc ?_) | (apply qr_boxed; refine r_boxed ?_) | (apply qr_store; refine r_store ?_) | (apply qr_build; refine r_build ?_))
   refine aq_nilcell 6 1 1 rfl rfl rfl ?_
   refine ret1x (by rfl) (by first | exact ResX.tmp _ _ (by first | exact ToD.d _ | exact ToD.row _ _ _ _ _ rfl) | exact ResX.cellA _ _ _ _ _ _ _ rfl rfl rfl (by first | (simp only [normV, normList, normMap]; rfl) | rfl) rfl | exact ResX.cell1 _ _ _ _ _ _ rfl rfl rfl (by first | exact ToD.d _ | exact ToD.row _ _ _ _ _ rfl)) ?_
   rfl
  have q0 : decide (e.op = 0) = false := decide_eq_false h0
  rw [if_neg h0] at hu
  by_cases h2 : e.op = 2
  ·rw [if_pos h2] at hu
   have q2 : decide (e.op = 2) = true := decide_eq_true h2
   have q3 : decide (e.op = 3) = false := decide_eq_false (by omega)
   have k1 := rtrip_any e.str
   have k2 := k1
   by_cases hn : tripU e.str = -1
   ·have hk : knownD (tripU e.str) = .tup [.int 0, .bool false] := by
     rw [hn]
     rfl
    have hx : e.unitU sc = .bad [] 14 := by
     rw [hu]
     unfold nameU
     rw [if_pos hn]
    rw [hk] at k1
    rw [hx]
    refine pure_enter Try.func35 rfl (by decide) _ Try.ntmps35 (le_ok rfl) (fun w Pr hE => ?_)
    dsimp only [slotsOf, Nat.zero_add, Nat.reduceAdd]
    repeat' (first | (apply at_call; refine k_call (k1) hE ?_; rintro _ rfl; clear k1) | (apply at_call; refine k_call (k2) hE ?_; rintro _ rfl) | refine nx ?_ | (apply aq_block_y; decide) | (apply qr_move; refine r_move ?_) | (apply qr_assign; refine r_assign ?_) | (apply at_cond; first | refine c_t ?_ | refine c_f ?_ | (refine aw_cond rfl (fun hb => ?_) (fun hb => ?_) <;> ((try have hq := dX hb); (try (exfalso; omega))))) | (apply qr_eql; refine r_eql ?_) | (apply qr_not; refine r_not ?_) | (apply qr_extract; refine r_extract ?_) | (apply qr_load; refine r_load ?_) | (apply qr_faddr; refine r_faddr ?_) | (apply qr_alloc; refine r_alloc ?_) | (apply qr_boxed; refine r_boxed ?_) | (apply qr_store; refine r_store ?_) | (apply qr_build; refine r_build ?_))
    refine aq_nilcell 6 1 1 rfl rfl rfl ?_
    refine ret1x (by rfl) (by first | exact ResX.tmp _ _ (by first | exact ToD.d _ | exact ToD.row _ _ _ _ _ rfl) | exact ResX.cellA _ _ _ _ _ _ _ rfl rfl rfl (by first | (simp only [normV, normList, normMap]; rfl) | rfl) rfl | exact ResX.cell1 _ _ _ _ _ _ rfl rfl rfl (by first | exact ToD.d _ | exact ToD.row _ _ _ _ _ rfl)) ?_
    rfl
   ·have hk : knownD (tripU e.str) = .tup [.int (tripU e.str), .bool true] := by
     unfold knownD
     rw [if_neg hn, decide_eq_false hn]
     rfl
    have hx : e.unitU sc = .ok (tripU e.str) := by
     rw [hu]
     unfold nameU
     rw [if_neg hn]
    rw [hk] at k1
    rw [hx]
    refine pure_enter Try.func35 rfl (by decide) _ Try.ntmps35 (le_ok rfl) (fun w Pr hE => ?_)
    dsimp only [slotsOf, Nat.zero_add, Nat.reduceAdd]
    repeat' (first | (apply at_call; refine k_call (k1) hE ?_; rintro _ rfl; clear k1) | (apply at_call; refine k_call (k2) hE ?_; rintro _ rfl) | refine nx ?_ | (apply aq_block_y; decide) | (apply qr_move; refine r_move ?_) | (apply qr_assign; refine r_assign ?_) | (apply at_cond; first | refine c_t ?_ | refine c_f ?_ | (refine aw_cond rfl (fun hb => ?_) (fun hb => ?_) <;> ((try have hq := dX hb); (try (exfalso; omega))))) | (apply qr_eql; refine r_eql ?_) | (apply qr_not; refine r_not ?_) | (apply qr_extract; refine r_extract ?_) | (apply qr_load; refine r_load ?_) | (apply qr_faddr; refine r_faddr ?_) | (apply qr_alloc; refine r_alloc ?_) | (apply qr_boxed; refine r_boxed ?_) | (apply qr_store; refine r_store ?_) | (apply qr_build; refine r_build ?_))
    refine aq_nilcell 6 1 1 rfl rfl rfl ?_
    refine ret1x (by rfl) (by first | exact ResX.tmp _ _ (by first | exact ToD.d _ | exact ToD.row _ _ _ _ _ rfl) | exact ResX.cellA _ _ _ _ _ _ _ rfl rfl rfl (by first | (simp only [normV, normList, normMap]; rfl) | rfl) rfl | exact ResX.cell1 _ _ _ _ _ _ rfl rfl rfl (by first | exact ToD.d _ | exact ToD.row _ _ _ _ _ rfl)) ?_
    rfl
  have q2 : decide (e.op = 2) = false := decide_eq_false h2
  rw [if_neg h2] at hu
  by_cases h3 : e.op = 3
  ·rw [if_pos h3] at hu
   have q3 : decide (e.op = 3) = true := decide_eq_true h3
   have k1 := rtrip_any e.str
   have k2 := rmember_any e.str
   unfold knownD at k1
   by_cases hn : memberU e.str = -1
   ·have hk : knownD (memberU e.str) = .tup [.int 0, .bool false] := by
     rw [hn]
     rfl
    have hx : e.unitU sc = .bad [] 14 := by
     rw [hu]
     unfold nameU
     rw [if_pos hn]
    rw [hk] at k2
    rw [hx]
    refine pure_enter Try.func35 rfl (by decide) _ Try.ntmps35 (le_ok rfl) (fun w Pr hE => ?_)
    dsimp only [slotsOf, Nat.zero_add, Nat.reduceAdd]
    repeat' (first | (apply at_call; refine k_call (k1) hE ?_; rintro _ rfl; clear k1) | (apply at_call; refine k_call (k2) hE ?_; rintro _ rfl) | refine nx ?_ | (apply aq_block_y; decide) | (apply qr_move; refine r_move ?_) | (apply qr_assign; refine r_assign ?_) | (apply at_cond; first | refine c_t ?_ | refine c_f ?_ | (refine aw_cond rfl (fun hb => ?_) (fun hb => ?_) <;> ((try have hq := dX hb); (try (exfalso; omega))))) | (apply qr_eql; refine r_eql ?_) | (apply qr_not; refine r_not ?_) | (apply qr_extract; refine r_extract ?_) | (apply qr_load; refine r_load ?_) | (apply qr_faddr; refine r_faddr ?_) | (apply qr_alloc; refine r_alloc ?_) | (apply qr_boxed; refine r_boxed ?_) | (apply qr_store; refine r_store ?_) | (apply qr_build; refine r_build ?_))
    refine aq_nilcell 6 1 1 rfl rfl rfl ?_
    refine ret1x (by rfl) (by first | exact ResX.tmp _ _ (by first | exact ToD.d _ | exact ToD.row _ _ _ _ _ rfl) | exact ResX.cellA _ _ _ _ _ _ _ rfl rfl rfl (by first | (simp only [normV, normList, normMap]; rfl) | rfl) rfl | exact ResX.cell1 _ _ _ _ _ _ rfl rfl rfl (by first | exact ToD.d _ | exact ToD.row _ _ _ _ _ rfl)) ?_
    rfl
   ·have hk : knownD (memberU e.str) = .tup [.int (memberU e.str), .bool true] := by
     unfold knownD
     rw [if_neg hn, decide_eq_false hn]
     rfl
    have hx : e.unitU sc = .ok (memberU e.str) := by
     rw [hu]
     unfold nameU
     rw [if_neg hn]
    rw [hk] at k2
    rw [hx]
    refine pure_enter Try.func35 rfl (by decide) _ Try.ntmps35 (le_ok rfl) (fun w Pr hE => ?_)
    dsimp only [slotsOf, Nat.zero_add, Nat.reduceAdd]
    repeat' (first | (apply at_call; refine k_call (k1) hE ?_; rintro _ rfl; clear k1) | (apply at_call; refine k_call (k2) hE ?_; rintro _ rfl) | refine nx ?_ | (apply aq_block_y; decide) | (apply qr_move; refine r_move ?_) | (apply qr_assign; refine r_assign ?_) | (apply at_cond; first | refine c_t ?_ | refine c_f ?_ | (refine aw_cond rfl (fun hb => ?_) (fun hb => ?_) <;> ((try have hq := dX hb); (try (exfalso; omega))))) | (apply qr_eql; refine r_eql ?_) | (apply qr_not; refine r_not ?_) | (apply qr_extract; refine r_extract ?_) | (apply qr_load; refine r_load ?_) | (apply qr_faddr; refine r_faddr ?_) | (apply qr_alloc; refine r_alloc ?_) | (apply qr_boxed; refine r_boxed ?_) | (apply qr_store; refine r_store ?_) | (apply qr_build; refine r_build ?_))
    refine aq_nilcell 6 1 1 rfl rfl rfl ?_
    refine ret1x (by rfl) (by first | exact ResX.tmp _ _ (by first | exact ToD.d _ | exact ToD.row _ _ _ _ _ rfl) | exact ResX.cellA _ _ _ _ _ _ _ rfl rfl rfl (by first | (simp only [normV, normList, normMap]; rfl) | rfl) rfl | exact ResX.cell1 _ _ _ _ _ _ rfl rfl rfl (by first | exact ToD.d _ | exact ToD.row _ _ _ _ _ rfl)) ?_
    rfl
  have q3 : decide (e.op = 3) = false := decide_eq_false h3
  rw [if_neg h3] at hu
  by_cases h1 : e.op = 1
  ·rw [if_pos h1] at hu
   have q1 : decide (e.op = 1) = true := decide_eq_true h1
   have hl1 : ((sc.map (·.1)).map fun s => [D.str s]).length = sc.length := by simp
   have hl2 : ((sc.map (·.2)).map fun n => [D.int n]).length = sc.length := by simp
   refine pure_enter Try.func35 rfl (by decide) _ Try.ntmps35 (le_ok rfl) (fun w Pr hE => ?_)
   dsimp only [slotsOf, Nat.zero_add, Nat.reduceAdd]
   repeat' (first | refine nx ?_ | (apply aq_block_y; decide) | (apply qr_assign; refine r_assign ?_) | (apply at_cond; first | refine c_t ?_ | refine c_f ?_ | (refine aw_cond rfl (fun hb => ?_) (fun hb => ?_) <;> ((try have hq := dX hb); (try (exfalso; omega))))) | (apply qr_eql; refine r_eql ?_) | (apply qr_load; refine r_load ?_) | (apply qr_faddr; refine r_faddr ?_) | (apply qr_alloc; refine r_alloc ?_) | (apply qr_boxed; refine r_boxed ?_))
   refine aw_lp (fun N sl ob => ∃ i : Nat, N = sc.length - i ∧ i ≤ sc.length ∧ (∀ q ∈ sc.take i, q.1 ≠ e.str) ∧ sl = [(9, .d (.int i)), (6, .box 6 0), (5, .box 5 0), (1, .d (intsD (sc.map (·.2)))), (0, .d (strsD (sc.map (·.1))))] ∧ ob = [(6, valZ), (5, exO' e)]) (⟨0, rfl, Nat.zero_le _, fun q hq => by simp at hq, rfl, rfl⟩) ?_
   rintro N sl ob ⟨i, rfl, hi, hne, rfl, rfl⟩
   by_cases hlt : i < sc.length
   ·have hg1 : ((sc.map (·.1)).map fun s => [D.str s])[i]? = some [D.str sc[i].1] := by
     rw [List.getElem?_map, List.getElem?_map, List.getElem?_eq_getElem hlt]
     rfl
    have hg2 : ((sc.map (·.2)).map fun n => [D.int n])[i]? = some [D.int sc[i].2] := by
     rw [List.getElem?_map, List.getElem?_map, List.getElem?_eq_getElem hlt]
     rfl
    have qi : decide ((i : Int) < (sc.length : Int)) = true := decide_eq_true (by omega)
    by_cases he : sc[i].1 = e.str
    ·have hsu := scope_first hlt hne he
     have hrg := hs sc[i] (List.getElem_mem hlt)
     have q4 : (!decide (sc[i].1 = e.str)) = false := by rw [decide_eq_true he]; rfl
     rw [hsu] at hu
     generalize sc[i] = z at *
     clear hne he hsu
     repeat' (first | refine nx ?_ | (apply aq_block_y; decide) | (apply qr_move; refine r_move ?_) | (apply at_cond; first | refine c_t ?_ | refine c_f ?_ | (refine aw_cond rfl (fun hb => ?_) (fun hb => ?_) <;> ((try have hq := dX hb); (try (exfalso; omega))))) | (apply qr_lss; refine r_lss ?_) | (apply qr_len; refine r_len ?_))
     refine aw_mixo ([(5, exO' e)]) [(0, true), (1, true), (2, true), (3, true), (4, true), (5, true), (6, true)] [] (by kernel_rfl) (by kernel_rfl) (by kernel_rfl) (by decide) (by (repeat (first | exact obs_nil | (apply obs_cons; focus (first | rfl | (simp [find]; done)))))) ?_
     simp only [planned, tailed, List.filterMap_cons, List.filterMap_nil, List.getElem?_cons_zero, List.getElem?_cons_succ, Option.map_some]
     repeat' (first | apply am_nil | refine m_skip ?_ | refine n_skip ?_ | (apply at_am (.indexAddr _ _ _); refine am_y (by first | exact want_none | exact want_yes rfl rfl (by assumption) | exact want_yes rfl rfl (by with_reducible rfl)) (y_ix (by first | exact ToD.d _ | exact ToD.row _ _ _ _ _ rfl) rfl rfl (by first | with_reducible rfl | exact lit0 | exact lit1 | exact lit2 | exact lit3 | exact lit4 | exact int_s _ | exact int_p _ _ | exact int_nat _ (by omega)) hg1) (lt_ok rfl) ?_) | (apply qm_move; refine m_move ?_) | (apply qm_neq; refine m_neq ?_) | (apply qm_ix; refine m_ix ?_) | (apply qm_load; refine m_load ?_) | (apply qm_faddr; refine m_faddr ?_) | (refine am_split rfl rfl (fun hb => ?_) (fun hb => ?_) <;> ((try have hq := dX hb); (try (exfalso; omega)))))
     by_cases hn : z.2 = -1
     ·have q5 : decide ((0 : Int) ≤ z.2) = false := decide_eq_false (by omega)
      have hx : e.unitU sc = .bad [] 14 := by
       rw [hu]
       unfold nameU
       rw [if_pos hn]
      rw [hx]
      repeat' (first | (apply at_op (.indexAddr _ _ _); refine al_ixq hg2 ?_) | refine nx ?_ | (apply aq_block_y; decide) | (apply qr_move; refine r_move ?_) | (apply at_cond; first | refine c_t ?_ | refine c_f ?_ | (refine aw_cond rfl (fun hb => ?_) (fun hb => ?_) <;> ((try have hq := dX hb); (try (exfalso; omega))))) | (apply qr_geq; refine r_geq ?_) | (apply qr_neq; refine r_neq ?_) | (apply qr_ix; refine r_ix ?_) | (apply qr_load; refine r_load ?_) | (apply qr_faddr; refine r_faddr ?_) | (apply qr_store; refine r_store ?_) | (apply qr_build; refine r_build ?_))
      refine aq_nilcell 6 1 1 rfl rfl rfl ?_
      refine ret1x (by rfl) (by first | exact ResX.tmp _ _ (by first | exact ToD.d _ | exact ToD.row _ _ _ _ _ rfl) | exact ResX.cellA _ _ _ _ _ _ _ rfl rfl rfl (by first | (simp only [normV, normList, normMap]; rfl) | rfl) rfl | exact ResX.cell1 _ _ _ _ _ _ rfl rfl rfl (by first | exact ToD.d _ | exact ToD.row _ _ _ _ _ rfl)) ?_
      rfl
     ·have hz4 := hrg.resolve_left hn
      have q5 : decide ((0 : Int) ≤ z.2) = true := decide_eq_true hz4.1
      have hx : e.unitU sc = .ok z.2 := by
       rw [hu]
       unfold nameU
       rw [if_neg hn]
      rw [hx]
      repeat' (first | (apply at_op (.indexAddr _ _ _); refine al_ixq hg2 ?_) | refine nx ?_ | (apply aq_block_y; decide) | (apply qr_move; refine r_move ?_) | (apply at_cond; first | refine c_t ?_ | refine c_f ?_ | (refine aw_cond rfl (fun hb => ?_) (fun hb => ?_) <;> ((try have hq := dX hb); (try (exfalso; omega))))) | (apply qr_geq; refine r_geq ?_) | (apply qr_neq; refine r_neq ?_) | (apply qr_ix; refine r_ix ?_) | (apply qr_load; refine r_load ?_) | (apply qr_faddr; refine r_faddr ?_) | (apply qr_store; refine r_store ?_) | (apply qr_build; refine r_build ?_))
      refine aq_nilcell 6 1 1 rfl rfl rfl ?_
      refine ret1x (by rfl) (by first | exact ResX.tmp _ _ (by first | exact ToD.d _ | exact ToD.row _ _ _ _ _ rfl) | exact ResX.cellA _ _ _ _ _ _ _ rfl rfl rfl (by first | (simp only [normV, normList, normMap]; rfl) | rfl) rfl | exact ResX.cell1 _ _ _ _ _ _ rfl rfl rfl (by first | exact ToD.d _ | exact ToD.row _ _ _ _ _ rfl)) ?_
      rfl
    ·have hnx := take_ne hlt hne he
     have q4 : (!decide (sc[i].1 = e.str)) = true := by rw [decide_eq_false he]; rfl
     generalize sc[i] = z at *
     clear hne he hg2
     repeat' (first | refine nx ?_ | (apply aq_block_y; decide) | (apply qr_move; refine r_move ?_) | (apply at_cond; first | refine c_t ?_ | refine c_f ?_ | (refine aw_cond rfl (fun hb => ?_) (fun hb => ?_) <;> ((try have hq := dX hb); (try (exfalso; omega))))) | (apply qr_lss; refine r_lss ?_) | (apply qr_len; refine r_len ?_))
     refine aw_mixo ([(5, exO' e)]) [(0, true), (1, true), (2, true), (3, true), (4, true), (5, true), (6, true)] [] (by kernel_rfl) (by kernel_rfl) (by kernel_rfl) (by decide) (by (repeat (first | exact obs_nil | (apply obs_cons; focus (first | rfl | (simp [find]; done)))))) ?_
     simp only [planned, tailed, List.filterMap_cons, List.filterMap_nil, List.getElem?_cons_zero, List.getElem?_cons_succ, Option.map_some]
     repeat' (first | apply am_nil | refine m_skip ?_ | refine n_skip ?_ | (apply at_am (.indexAddr _ _ _); refine am_y (by first | exact want_none | exact want_yes rfl rfl (by assumption) | exact want_yes rfl rfl (by with_reducible rfl)) (y_ix (by first | exact ToD.d _ | exact ToD.row _ _ _ _ _ rfl) rfl rfl (by first | with_reducible rfl | exact lit0 | exact lit1 | exact lit2 | exact lit3 | exact lit4 | exact int_s _ | exact int_p _ _ | exact int_nat _ (by omega)) hg1) (lt_ok rfl) ?_) | (apply qm_move; refine m_move ?_) | (apply qm_neq; refine m_neq ?_) | (apply qm_ix; refine m_ix ?_) | (apply qm_load; refine m_load ?_) | (apply qm_faddr; refine m_faddr ?_) | (refine am_split rfl rfl (fun hb => ?_) (fun hb => ?_) <;> ((try have hq := dX hb); (try (exfalso; omega)))))
     repeat' (first | refine nx ?_ | (apply aq_block_y; decide) | (apply qr_move; refine r_move ?_) | (apply qr_assign; refine r_assign ?_) | (apply at_cond; first | refine c_t ?_ | refine c_f ?_ | (refine aw_cond rfl (fun hb => ?_) (fun hb => ?_) <;> ((try have hq := dX hb); (try (exfalso; omega))))) | (apply qr_neq; refine r_neq ?_) | (apply qr_add; refine r_add ?_) | (apply qr_ix; refine r_ix ?_) | (apply qr_load; refine r_load ?_) | (apply qr_faddr; refine r_faddr ?_))
     refine aq_rd (⟨i + 1, rfl, by omega, hnx, rfl, rfl⟩) (by omega)
   ·obtain rfl : i = sc.length := by omega
    rw [List.take_length] at hne
    have hx : e.unitU sc = .bad [] 14 := by
     rw [hu, scopeU_no hne]
     rfl
    rw [hx]
    repeat' (first | refine nx ?_ | (apply aq_block_y; decide) | (apply qr_move; refine r_move ?_) | (apply at_cond; first | refine c_t ?_ | refine c_f ?_ | (refine aw_cond rfl (fun hb => ?_) (fun hb => ?_) <;> ((try have hq := dX hb); (try (exfalso; omega))))) | (apply qr_lss; refine r_lss ?_) | (apply qr_len; refine r_len ?_) | (apply qr_store; refine r_store ?_) | (apply qr_build; refine r_build ?_))
    refine aq_nilcell 6 1 1 rfl rfl rfl ?_
    refine ret1x (by rfl) (by first | exact ResX.tmp _ _ (by first | exact ToD.d _ | exact ToD.row _ _ _ _ _ rfl) | exact ResX.cellA _ _ _ _ _ _ _ rfl rfl rfl (by first | (simp only [normV, normList, normMap]; rfl) | rfl) rfl | exact ResX.cell1 _ _ _ _ _ _ rfl rfl rfl (by first | exact ToD.d _ | exact ToD.row _ _ _ _ _ rfl)) ?_
    rfl
  have q1 : decide (e.op = 1) = false := decide_eq_false h1
  rw [if_neg h1] at hu
  have hops := right_ops hr h0 h1 h2 h3
  refine pure_enter Try.func35 rfl (by decide) _ Try.ntmps35 (le_ok rfl) (fun w Pr hE => ?_)
  dsimp only [slotsOf, Nat.zero_add, Nat.reduceAdd]
  repeat' (first | refine nx ?_ | (apply aq_block_y; decide) | (apply qr_assign; refine r_assign ?_) | (apply at_cond; first | refine c_t ?_ | refine c_f ?_ | (refine aw_cond rfl (fun hb => ?_) (fun hb => ?_) <;> ((try have hq := dX hb); (try (exfalso; omega))))) | (apply qr_eql; refine r_eql ?_) | (apply qr_load; refine r_load ?_) | (apply qr_faddr; refine r_faddr ?_) | (apply qr_alloc; refine r_alloc ?_) | (apply qr_boxed; refine r_boxed ?_))
  refine aw_adopt 10 76 3 1 rfl rfl (lt_ok rfl) ?_
  refine aw_lp (fun N sl ob => ∃ (i k : Nat) (us : List Int), N = e.args.length - i ∧ i ≤ e.args.length ∧ us.length = i ∧ (∀ (j : Nat) (hj : j < e.args.length), j < i → e.args[j].unitU sc = .ok (us.getD j 0)) ∧ sl = [(11, .d (.int i)), (10, .row 76 k), (6, .box 6 0), (5, .box 5 0), (1, .d (intsD (sc.map (·.2)))), (0, .d (strsD (sc.map (·.1))))] ∧ ob = [(76, .row 3 1 k (us.map fun n => [D.int n])), (6, valZ), (5, exO' e)]) (⟨0, 0, [], rfl, Nat.zero_le _, rfl, fun j hj h => by omega, rfl, rfl⟩) ?_
  rintro N sl ob ⟨i, k, us, rfl, hi, hul, hall, rfl, rfl⟩
  have hum : (us.map fun n => [D.int n]).length = us.length := List.length_map ..
  by_cases hlt : i < e.args.length
  ·have q5 : decide ((i : Int) < (e.args.length : Int)) = true := decide_eq_true (by omega)
   have hg := rows_get hlt
   have hxr := hargs e.args[i] (List.getElem_mem hlt)
   have hxt := wide_get ht hlt
   have hcx := ih sc e.args[i] hs hl hxr hxt
   cases hx : e.args[i].unitU sc with
   | ok u =>
    have hnext : ∀ (j : Nat) (hj : j < e.args.length), j < i + 1 → e.args[j].unitU sc = .ok ((us ++ [u]).getD j 0) := fun j hj hji => by
     rcases Nat.lt_succ_iff_lt_or_eq.1 hji with h | rfl
     ·rw [hall j hj h]
      congr 1
      simp [List.getD_eq_getElem?_getD, List.getElem?_append_left (show j < us.length by omega)]
     ·rw [hx]
      congr 1
      simp [List.getD_eq_getElem?_getD, hul]
    have hmap : us.map (fun n => [D.int n]) ++ [[D.int u]] = (us ++ [u]).map (fun n => [D.int n]) := by simp
    rw [hx] at hcx
    unfold valD at hcx
    dsimp only at hcx
    clear hx
    generalize e.args[i] = x at hg hcx
    repeat' (first | (apply at_op (.indexAddr _ _ _); refine al_ixq hg ?_) | (apply at_call; refine k_call (hcx) hE ?_; rintro _ rfl) | refine nx ?_ | (apply aq_block_y; decide) | (apply qr_move; refine r_move ?_) | (apply qr_assign; refine r_assign ?_) | (apply at_cond; first | refine c_t ?_ | refine c_f ?_ | (refine aw_cond rfl (fun hb => ?_) (fun hb => ?_) <;> ((try have hq := dX hb); (try (exfalso; omega))))) | (apply qr_lss; refine r_lss ?_) | (apply qr_neq; refine r_neq ?_) | (apply qr_len; refine r_len ?_) | (apply qr_ix; refine r_ix ?_) | (apply qr_load; refine r_load ?_) | (apply qr_faddr; refine r_faddr ?_) | (apply qr_alloc; refine r_alloc ?_) | (apply qr_store; refine r_store ?_) | (apply qr_lits; refine r_lits ?_) | (apply qr_appd; refine r_appd ?_))
    rw [hmap]
    repeat' (first | refine nx ?_ | (apply aq_block_y; decide) | (apply qr_move; refine r_move ?_) | (apply qr_assign; refine r_assign ?_) | (apply at_cond; first | refine c_t ?_ | refine c_f ?_ | (refine aw_cond rfl (fun hb => ?_) (fun hb => ?_) <;> ((try have hq := dX hb); (try (exfalso; omega))))) | (apply qr_add; refine r_add ?_))
    refine aq_rd (⟨i + 1, k + 1, us ++ [u], rfl, by omega, by simp [hul], hnext, rfl, rfl⟩) (by omega)
   | bad p c =>
    have hbad : e.unitU sc = .bad ((i : Int) :: p) c := by
     rw [hu, parts_bad hlt hx (fun j hj hji => ⟨_, hall j hj hji⟩) 0]
     simp [partsU]
    obtain ⟨hpl, hpc⟩ := placed d sc e.args[i] p c hxr hx
    have hcc : c = 13 ∨ c = 14 := by
     obtain ⟨part, _, hp⟩ := placed_at p sc _ c hpl
     exact hp.2.2.2
    have q6 : (!decide (c = 0)) = true := by
     rw [decide_eq_false (by omega)]
     rfl
    have hpm : (p.map fun n => [D.int n]).length = p.length := List.length_map ..
    rw [hx] at hcx
    rw [hbad]
    unfold valD at hcx
    dsimp only at hcx
    clear hx hall hpl hcc
    generalize e.args[i] = x at hg hcx
    repeat' (first | (apply at_op (.indexAddr _ _ _); refine al_ixq hg ?_) | (apply at_call; refine k_call (hcx) hE ?_; rintro _ rfl) | refine nx ?_ | (apply aq_block_y; decide) | (apply qr_move; refine r_move ?_) | (apply at_cond; first | refine c_t ?_ | refine c_f ?_ | (refine aw_cond rfl (fun hb => ?_) (fun hb => ?_) <;> ((try have hq := dX hb); (try (exfalso; omega))))) | (apply qr_lss; refine r_lss ?_) | (apply qr_neq; refine r_neq ?_) | (apply qr_len; refine r_len ?_) | (apply qr_ix; refine r_ix ?_) | (apply qr_load; refine r_load ?_) | (apply qr_faddr; refine r_faddr ?_) | (apply qr_alloc; refine r_alloc ?_) | (apply qr_store; refine r_store ?_))
    refine aw_mixo ([(12, .box 66 [.d (.int 0), .d (intsD p), .d (.int c)])]) [(0, true), (2, true), (3, true), (5, true), (6, true), (1, false), (4, false), (7, true)] [8] (by kernel_rfl) (by kernel_rfl) (by kernel_rfl) (by decide) (by (repeat (first | exact obs_nil | (apply obs_cons; focus (first | rfl | (simp [find]; done)))))) ?_
    simp only [planned, tailed, List.filterMap_cons, List.filterMap_nil, List.getElem?_cons_zero, List.getElem?_cons_succ, Option.map_some]
    repeat' (first | apply am_nil | refine m_skip ?_ | refine n_skip ?_ | (apply at_am (.buildSlice _ 1 _); refine am_litR (l2 := [[.int i]]) (by first | exact want_none | exact want_yes rfl rfl (by assumption) | exact want_yes rfl rfl (by with_reducible rfl)) rfl (by repeat (first | exact PartsD.nil | (apply PartsD.cons; first | exact ToD.d _ | exact ToD.row _ _ _ _ _ rfl))) (by simp [dfill, putD, cellsD, zerosD, Value.cells]; rfl) rfl (by decide) (by decide) (lt_ok rfl) rfl rfl rfl ?_) | (apply at_am (.call { callee := .builtin .append, args := _, argTypes := _ }); refine am_append (by first | exact want_none | exact want_yes rfl rfl (by assumption) | exact want_yes rfl rfl (by with_reducible rfl)) rfl rfl rfl (by first | exact ToD.d _ | exact ToD.row _ _ _ _ _ rfl) rfl rfl (one_uints p) (by decide) (by simp only [List.length_map, List.length_cons, List.length_nil]; omega) (by simp only [List.length_map, List.length_cons, List.length_nil]; omega) (lt_ok rfl) ?_) | (apply at_am (.build _ _); refine am_yw (by first | exact want_none | exact want_yes rfl rfl (by assumption) | exact want_yes rfl rfl (by with_reducible rfl)) (yw_buildS rfl (by repeat (first | exact PartsS.nil | (apply PartsS.cons; rfl; constructor; rfl))) rfl rfl) (lt_ok rfl) ?_) | (apply qm_move; refine m_move ?_) | (apply qm_load; refine m_load ?_) | (apply qm_faddr; refine m_faddr ?_) | (apply qm_build; refine m_build ?_) | (apply at_am (.buildSlice _ _ _); first | refine am_lit1 (by first | exact want_none | exact want_yes rfl rfl (by assumption) | exact want_yes rfl rfl (by with_reducible rfl)) rfl (by first | exact ToD.d _ | exact ToD.row _ _ _ _ _ rfl) (by first | (simp only [normV, normList, normMap]; rfl) | rfl) rfl (le_ok rfl) (lt_ok rfl) ?_ | refine am_lit (by first | exact want_none | exact want_yes rfl rfl (by assumption) | exact want_yes rfl rfl (by with_reducible rfl)) rfl (by repeat (first | exact PartsD.nil | (apply PartsD.cons; first | exact ToD.d _ | exact ToD.row _ _ _ _ _ rfl))) (by simp [dfill, putD, cellsD, zerosD, Value.cells]; rfl) (by first | (simp only [normV, normList, normMap]; rfl) | rfl) (by decide) (by decide) (lt_ok rfl) ?_) | (refine am_split rfl rfl (fun hb => ?_) (fun hb => ?_) <;> ((try have hq := dX hb); (try (exfalso; omega)))))
    repeat' (first | (apply at_op (.store _ _ _); refine al_step (st_store (n := [.d (.int 0), .row 90 1, .d (.int c)]) (l' := [.d (.int 0), .row 90 1, .d (.int c)]) (k := 3) rfl rfl rfl nofun rfl (by simp [V.one, Value.oneCell']) (.inr rfl) rfl (le_ok rfl) rfl) rfl ?_) | refine nx ?_ | (apply aq_block_y; decide) | (apply qr_move; refine r_move ?_) | (apply at_cond; first | refine c_t ?_ | refine c_f ?_ | (refine aw_cond rfl (fun hb => ?_) (fun hb => ?_) <;> ((try have hq := dX hb); (try (exfalso; omega))))) | (apply qr_load; refine r_load ?_) | (apply qr_faddr; refine r_faddr ?_) | (apply qr_store; refine r_store ?_) | (apply qr_build; refine r_build ?_) | (apply qr_lits; refine r_lits ?_) | (apply qr_appd; refine r_appd ?_))
    refine aq_celltold 6 1 rfl rfl (.row _ _ _ _ _ rfl) rfl ?_
    refine ret1x (by rfl) (by first | exact ResX.tmp _ _ (by first | exact ToD.d _ | exact ToD.row _ _ _ _ _ rfl) | exact ResX.cellA _ _ _ _ _ _ _ rfl rfl rfl (by first | (simp only [normV, normList, normMap]; rfl) | rfl) rfl | exact ResX.cell1 _ _ _ _ _ _ rfl rfl rfl (by first | exact ToD.d _ | exact ToD.row _ _ _ _ _ rfl)) ?_
    rfl
  ·obtain rfl : i = e.args.length := by omega
   have q5 : decide ((e.args.length : Int) < (e.args.length : Int)) = false := decide_eq_false (by omega)
   have hinl := parts_all hul (fun j hj => hall j hj hj) 0
   rw [hinl] at hu
   have hj := rtable_any e.op us (by omega) (by rw [hul]; exact hops)
   have hur : ∀ u ∈ us, Unit4 u := fun u hm => by
    obtain ⟨j, hj, rfl⟩ := List.getElem_of_mem hm
    have hje : j < e.args.length := by omega
    have := hall j hje hje
    refine unit_range d sc e.args[j] _ hs (hargs _ (List.getElem_mem hje)) ?_
    rw [this, List.getD_eq_getElem?_getD, List.getElem?_eq_getElem hj]
    rfl
   clear hall
   by_cases hjn : joinU e.op us = -1
   ·have hx : e.unitU sc = .bad [] 13 := by
     rw [hu]
     simp only [partsU]
     rw [if_pos hjn]
    have q6 : decide (joinU e.op us < 0) = true := by
     rw [hjn]
     rfl
    rw [hx]
    generalize joinU e.op us = J at *
    repeat' (first | (apply at_call; refine k_call (hj) hE ?_; rintro _ rfl) | refine nx ?_ | (apply aq_block_y; decide) | (apply qr_move; refine r_move ?_) | (apply qr_assign; refine r_assign ?_) | (apply at_cond; first | refine c_t ?_ | refine c_f ?_ | (refine aw_cond rfl (fun hb => ?_) (fun hb => ?_) <;> ((try have hq := dX hb); (try (exfalso; omega))))) | (apply qr_lss; refine r_lss ?_) | (apply qr_len; refine r_len ?_) | (apply qr_load; refine r_load ?_) | (apply qr_faddr; refine r_faddr ?_) | (apply qr_store; refine r_store ?_) | (apply qr_build; refine r_build ?_))
    refine aq_nilcell 6 1 1 rfl rfl rfl ?_
    refine ret1x (by rfl) (by first | exact ResX.tmp _ _ (by first | exact ToD.d _ | exact ToD.row _ _ _ _ _ rfl) | exact ResX.cellA _ _ _ _ _ _ _ rfl rfl rfl (by first | (simp only [normV, normList, normMap]; rfl) | rfl) rfl | exact ResX.cell1 _ _ _ _ _ _ rfl rfl rfl (by first | exact ToD.d _ | exact ToD.row _ _ _ _ _ rfl)) ?_
    rfl
   ·have hx : e.unitU sc = .ok (joinU e.op us) := by
     rw [hu]
     simp only [partsU]
     rw [if_neg hjn]
    have q6 : decide (joinU e.op us < 0) = false := decide_eq_false (by have := (join_range hur hjn).1; omega)
    rw [hx]
    generalize joinU e.op us = J at *
    repeat' (first | (apply at_call; refine k_call (hj) hE ?_; rintro _ rfl) | refine nx ?_ | (apply aq_block_y; decide) | (apply qr_move; refine r_move ?_) | (apply qr_assign; refine r_assign ?_) | (apply at_cond; first | refine c_t ?_ | refine c_f ?_ | (refine aw_cond rfl (fun hb => ?_) (fun hb => ?_) <;> ((try have hq := dX hb); (try (exfalso; omega))))) | (apply qr_lss; refine r_lss ?_) | (apply qr_len; refine r_len ?_) | (apply qr_load; refine r_load ?_) | (apply qr_faddr; refine r_faddr ?_) | (apply qr_store; refine r_store ?_) | (apply qr_build; refine r_build ?_))
    refine aq_nilcell 6 1 1 rfl rfl rfl ?_
    refine ret1x (by rfl) (by first | exact ResX.tmp _ _ (by first | exact ToD.d _ | exact ToD.row _ _ _ _ _ rfl) | exact ResX.cellA _ _ _ _ _ _ _ rfl rfl rfl (by first | (simp only [normV, normList, normMap]; rfl) | rfl) rfl | exact ResX.cell1 _ _ _ _ _ _ rfl rfl rfl (by first | exact ToD.d _ | exact ToD.row _ _ _ _ _ rfl)) ?_
    rfl
end Go.Proofs.Ytgiacdhffklenaa
end
section
set_option linter.unusedSimpArgs false
set_option linter.unusedVariables false
namespace Go.Proofs.Ytgiacdhffklenaa
open Go.RowKit
abbrev valB (u : Int) (p : List Int) (c : Int) : O := .box 66 [.d (.int u), .d (intsD p), .d (.int c)]
theorem rof_any (ls : List (ByteArray × Ex)) (e : Ex) (hl : ls.length ≤ 100) (ht : ∀ q ∈ ls, Ex.tame q.2) (he : e.tame) : PureC 11 [letsD ls, .agg (exC e)] (· = ofD (ofU ls e)) := by
 have hlen : (ls.map letC).length = ls.length := List.length_map ..
 have c1 := rrightExp_any e he
 cases hr : e.right 12
 ·rw [hr] at c1
  have hres : ofU ls e = (0, [], 1) := by simp [ofU, hr]
  refine pure_enter Try.func11 rfl (by decide) _ Try.ntmps11 (le_ok rfl) (fun w Pr hE => ?_)
  dsimp only [slotsOf, Nat.zero_add, Nat.reduceAdd]
  repeat' (first | (apply at_call; refine k_call (c1) hE ?_; rintro _ rfl) | refine nx ?_ | (apply aq_block_y; decide) | (apply qr_move; refine r_move ?_) | (apply qr_assign; refine r_assign ?_) | (apply at_cond; first | refine c_t ?_ | refine c_f ?_ | (refine aw_cond rfl (fun hb => ?_) (fun hb => ?_) <;> ((try have hq := dX hb); (try (exfalso; omega))))) | (apply at_guard; first | refine g_go ?_ | refine g_nt ?_ | refine g_nf ?_ | refine g_nu ?_ | ((first | refine al_split_t rfl rfl (lt_ok rfl) (fun hb => ?_) (fun hb => ?_) | refine al_split_f rfl rfl (lt_ok rfl) (fun hb => ?_) (fun hb => ?_)) <;> ((try have hq := dX hb); (try (exfalso; omega))))) | (apply qr_pick; refine r_pick ?_) | (apply qr_gtr; refine r_gtr ?_) | (apply qr_not; refine r_not ?_) | (apply qr_len; refine r_len ?_) | (apply qr_load; refine r_load ?_) | (apply qr_boxed; refine r_boxed ?_))
  refine ret_three (by rfl) (ToD.d _) (ToD.nil 1) (ToD.d _) ?_
  rw [hres]
  rfl
 rw [hr] at c1
 by_cases h20 : 20 < ls.length
 ·have q1 : decide ((20 : Int) < (ls.length : Int)) = true := decide_eq_true (by omega)
  have hres : ofU ls e = (0, [], 1) := by
   unfold ofU
   rw [hr, q1]
   rfl
  refine pure_enter Try.func11 rfl (by decide) _ Try.ntmps11 (le_ok rfl) (fun w Pr hE => ?_)
  dsimp only [slotsOf, Nat.zero_add, Nat.reduceAdd]
  repeat' (first | (apply at_call; refine k_call (c1) hE ?_; rintro _ rfl) | refine nx ?_ | (apply aq_block_y; decide) | (apply qr_move; refine r_move ?_) | (apply qr_assign; refine r_assign ?_) | (apply at_cond; first | refine c_t ?_ | refine c_f ?_ | (refine aw_cond rfl (fun hb => ?_) (fun hb => ?_) <;> ((try have hq := dX hb); (try (exfalso; omega))))) | (apply at_guard; first | refine g_go ?_ | refine g_nt ?_ | refine g_nf ?_ | refine g_nu ?_ | ((first | refine al_split_t rfl rfl (lt_ok rfl) (fun hb => ?_) (fun hb => ?_) | refine al_split_f rfl rfl (lt_ok rfl) (fun hb => ?_) (fun hb => ?_)) <;> ((try have hq := dX hb); (try (exfalso; omega))))) | (apply qr_pick; refine r_pick ?_) | (apply qr_gtr; refine r_gtr ?_) | (apply qr_not; refine r_not ?_) | (apply qr_len; refine r_len ?_) | (apply qr_load; refine r_load ?_) | (apply qr_boxed; refine r_boxed ?_))
  refine ret_three (by rfl) (ToD.d _) (ToD.nil 1) (ToD.d _) ?_
  rw [hres]
  rfl
 have q1 : decide ((20 : Int) < (ls.length : Int)) = false := decide_eq_false (by omega)
 refine pure_enter Try.func11 rfl (by decide) _ Try.ntmps11 (le_ok rfl) (fun w Pr hE => ?_)
 dsimp only [slotsOf, Nat.zero_add, Nat.reduceAdd]
 repeat' (first | (apply at_call; refine k_call (c1) hE ?_; rintro _ rfl) | refine nx ?_ | (apply aq_block_y; decide) | (apply qr_move; refine r_move ?_) | (apply qr_assign; refine r_assign ?_) | (apply at_cond; first | refine c_t ?_ | refine c_f ?_ | (refine aw_cond rfl (fun hb => ?_) (fun hb => ?_) <;> ((try have hq := dX hb); (try (exfalso; omega))))) | (apply at_guard; first | refine g_go ?_ | refine g_nt ?_ | refine g_nf ?_ | refine g_nu ?_ | ((first | refine al_split_t rfl rfl (lt_ok rfl) (fun hb => ?_) (fun hb => ?_) | refine al_split_f rfl rfl (lt_ok rfl) (fun hb => ?_) (fun hb => ?_)) <;> ((try have hq := dX hb); (try (exfalso; omega))))) | (apply qr_pick; refine r_pick ?_) | (apply qr_gtr; refine r_gtr ?_) | (apply qr_not; refine r_not ?_) | (apply qr_len; refine r_len ?_) | (apply qr_load; refine r_load ?_) | (apply qr_boxed; refine r_boxed ?_))
 clear c1
 refine aw_lp (fun N sl ob => ∃ i : Nat, N = ls.length - i ∧ i ≤ ls.length ∧ wrongL (ls.take i) = false ∧ sl = [(7, .d (.int i)), (3, .box 3 0), (0, .d (letsD ls))] ∧ ob = [(3, exO' e)]) (⟨0, rfl, Nat.zero_le _, by simp [wrongL], rfl, rfl⟩) ?_
 rintro N sl ob ⟨i, rfl, hi, hs, rfl, rfl⟩
 by_cases hlt : i < ls.length
 ·have hg : (ls.map letC)[i]? = some (letC ls[i]) := by rw [get_map hlt]
  have hnext := any_take (fun q : ByteArray × Ex => !q.2.right 12) hlt
  unfold wrongL at hs
  rw [hs, Bool.false_or] at hnext
  have hc := rrightExp_any ls[i].2 (ht _ (List.getElem_mem hlt))
  have qi : decide ((i : Int) < (ls.length : Int)) = true := decide_eq_true (by omega)
  cases hT : ls[i].2.right 12
  ·rw [hT] at hc
   have hw : wrongL ls = true := List.any_eq_true.2 ⟨ls[i], List.getElem_mem hlt, by rw [hT]; rfl⟩
   have hres : ofU ls e = (0, [], 1) := by
    unfold ofU
    rw [hr, q1, hw]
    rfl
   generalize ls[i] = z at *
   repeat' (first | (apply at_op (.indexAddr _ _ _); refine al_ixq hg ?_) | (apply at_call; refine k_call (hc) hE ?_; rintro _ rfl) | refine nx ?_ | (apply aq_block_y; decide) | (apply qr_move; refine r_move ?_) | (apply qr_assign; refine r_assign ?_) | (apply at_cond; first | refine c_t ?_ | refine c_f ?_ | (refine aw_cond rfl (fun hb => ?_) (fun hb => ?_) <;> ((try have hq := dX hb); (try (exfalso; omega))))) | (apply qr_lss; refine r_lss ?_) | (apply qr_not; refine r_not ?_) | (apply qr_len; refine r_len ?_) | (apply qr_ix; refine r_ix ?_) | (apply qr_load; refine r_load ?_) | (apply qr_faddr; refine r_faddr ?_))
   refine ret_three (by rfl) (ToD.d _) (ToD.nil 1) (ToD.d _) ?_
   rw [hres]
   rfl
  ·rw [hT] at hc hnext
   generalize ls[i] = z at *
   repeat' (first | (apply at_op (.indexAddr _ _ _); refine al_ixq hg ?_) | (apply at_call; refine k_call (hc) hE ?_; rintro _ rfl) | refine nx ?_ | (apply aq_block_y; decide) | (apply qr_move; refine r_move ?_) | (apply at_cond; first | refine c_t ?_ | refine c_f ?_ | (refine aw_cond rfl (fun hb => ?_) (fun hb => ?_) <;> ((try have hq := dX hb); (try (exfalso; omega))))) | (apply qr_lss; refine r_lss ?_) | (apply qr_not; refine r_not ?_) | (apply qr_len; refine r_len ?_) | (apply qr_ix; refine r_ix ?_) | (apply qr_load; refine r_load ?_) | (apply qr_faddr; refine r_faddr ?_))
   repeat' (first | refine nx ?_ | (apply aq_block_y; decide) | (apply qr_move; refine r_move ?_) | (apply qr_assign; refine r_assign ?_) | (apply at_cond; first | refine c_t ?_ | refine c_f ?_ | (refine aw_cond rfl (fun hb => ?_) (fun hb => ?_) <;> ((try have hq := dX hb); (try (exfalso; omega))))) | (apply qr_add; refine r_add ?_))
   refine aq_rd (⟨i + 1, rfl, by omega, hnext, rfl, rfl⟩) (by omega)
 rw [List.take_of_length_le (by omega)] at hs
 have hall : ∀ q ∈ ls, Ex.right q.2 12 = true := fun q hq => by
  unfold wrongL at hs
  rw [List.any_eq_false] at hs
  simpa using hs q hq
 have hres : ofU ls e = (match e.unitU (scopedU ls) with | .ok u => (u, [], 0) | .bad p c => (0, p, c)) := by
  unfold ofU
  rw [hr, q1, hs]
  rfl
 have qi : decide ((i : Int) < (ls.length : Int)) = false := decide_eq_false (by omega)
 repeat' (first | refine nx ?_ | (apply aq_block_y; decide) | (apply qr_move; refine r_move ?_) | (apply qr_assign; refine r_assign ?_) | (apply at_cond; first | refine c_t ?_ | refine c_f ?_ | (refine aw_cond rfl (fun hb => ?_) (fun hb => ?_) <;> ((try have hq := dX hb); (try (exfalso; omega))))) | (apply qr_lss; refine r_lss ?_) | (apply qr_len; refine r_len ?_))
 clear hs qi
 refine aw_adopt 8 69 9 1 rfl rfl (lt_ok rfl) ?_
 refine aw_adopt 9 71 3 1 rfl rfl (lt_ok rfl) ?_
 refine aw_lp (fun N sl ob => ∃ i k m : Nat, N = ls.length - i ∧ i ≤ ls.length ∧ sl = [(10, .d (.int i)), (9, .row 71 m), (8, .row 69 k), (3, .box 3 0), (0, .d (letsD ls))] ∧ ob = [(3, exO' e), (69, .row 9 1 k (((scopedU (ls.take i)).map (·.1)).map fun s => [D.str s])), (71, .row 3 1 m (((scopedU (ls.take i)).map (·.2)).map fun n => [D.int n]))]) (⟨0, 0, 0, rfl, Nat.zero_le _, rfl, rfl⟩) ?_
 clear hi hlt i
 rintro N sl ob ⟨i, k, m, rfl, hi, rfl, rfl⟩
 by_cases hlt : i < ls.length
 ·have hg : (ls.map letC)[i]? = some (letC ls[i]) := by rw [get_map hlt]
  have hqr := hall ls[i] (List.getElem_mem hlt)
  have hun := rnode_any 12 (by decide) (scopedU (ls.take i)) ls[i].2 (scoped_range _ _ rfl fun q hq => hall q (List.mem_of_mem_take hq)) (by rw [scoped_len, List.length_take]; omega) hqr (tame_wide (ht ls[i] (List.getElem_mem hlt)))
  have hsn := scoped_snoc (ls.take i) ls[i]
  rw [← List.take_succ_eq_append_getElem hlt] at hsn
  have hN0 : ((scopedU (ls.take i)).map (·.1)).map (fun s => [D.str s]) ++ [[D.str ls[i].1]] = ((scopedU (ls.take (i + 1))).map (·.1)).map (fun s => [D.str s]) := by rw [hsn]; simp
  have hU0 : ((scopedU (ls.take i)).map (·.2)).map (fun n => [D.int n]) ++ [[D.int (ls[i].2.unitU (scopedU (ls.take i))).un]] = ((scopedU (ls.take (i + 1))).map (·.2)).map (fun n => [D.int n]) := by rw [hsn]; simp
  have hll : (((scopedU (ls.take i)).map (·.1)).map (fun s => [D.str s])).length ≤ 100 := by simp [scoped_len]; omega
  have hml : (((scopedU (ls.take i)).map (·.2)).map (fun n => [D.int n])).length ≤ 100 := by simp [scoped_len]; omega
  have qi : decide ((i : Int) < (ls.length : Int)) = true := decide_eq_true (by omega)
  generalize ls[i] = q at hg hqr hun hsn hN0 hU0
  cases hx : q.2.unitU (scopedU (ls.take i)) with
  | ok u =>
   rw [hx] at hun hU0
   have hU := hU0
   have hN := hN0
   simp only [UR.un] at hU
   clear hU0 hN0 hx hsn
   unfold strsD intsD valD at hun
   dsimp only at hun
   generalize ((scopedU (ls.take i)).map (·.1)).map (fun s => [D.str s]) = L at *
   generalize ((scopedU (ls.take i)).map (·.2)).map (fun n => [D.int n]) = M at *
   repeat' (first | (apply at_op (.indexAddr _ _ _); refine al_ixq hg ?_) | (apply at_call; refine k_call (hun) hE ?_; rintro _ rfl) | refine nx ?_ | (apply aq_block_y; decide) | (apply qr_move; refine r_move ?_) | (apply qr_assign; refine r_assign ?_) | (apply at_cond; first | refine c_t ?_ | refine c_f ?_ | (refine aw_cond rfl (fun hb => ?_) (fun hb => ?_) <;> ((try have hq := dX hb); (try (exfalso; omega))))) | (apply qr_lss; refine r_lss ?_) | (apply qr_neq; refine r_neq ?_) | (apply qr_len; refine r_len ?_) | (apply qr_ix; refine r_ix ?_) | (apply qr_load; refine r_load ?_) | (apply qr_faddr; refine r_faddr ?_) | (apply qr_alloc; refine r_alloc ?_) | (apply qr_store; refine r_store ?_) | (apply qr_lits; refine r_lits ?_) | (apply qr_appd; refine r_appd ?_))
   rw [hN, hU]
   repeat' (first | refine nx ?_ | (apply aq_block_y; decide) | (apply qr_move; refine r_move ?_) | (apply qr_assign; refine r_assign ?_) | (apply at_cond; first | refine c_t ?_ | refine c_f ?_ | (refine aw_cond rfl (fun hb => ?_) (fun hb => ?_) <;> ((try have hq := dX hb); (try (exfalso; omega))))) | (apply qr_add; refine r_add ?_))
   refine aq_rd (⟨i + 1, k + 1, m + 1, rfl, by omega, rfl, rfl⟩) (by omega)
  | bad p c =>
   have hc := bad_code hqr hx
   rw [hx] at hun hU0
   have hU := hU0
   have hN := hN0
   simp only [UR.un] at hU
   have q6 : (!decide (c = 0)) = true := by
    rw [decide_eq_false (by omega)]
    rfl
   clear hU0 hN0 hx hc hsn
   unfold strsD intsD valD at hun
   dsimp only at hun
   generalize ((scopedU (ls.take i)).map (·.1)).map (fun s => [D.str s]) = L at *
   generalize ((scopedU (ls.take i)).map (·.2)).map (fun n => [D.int n]) = M at *
   repeat' (first | (apply at_op (.indexAddr _ _ _); refine al_ixq hg ?_) | (apply at_call; refine k_call (hun) hE ?_; rintro _ rfl) | refine nx ?_ | (apply aq_block_y; decide) | (apply qr_move; refine r_move ?_) | (apply qr_assign; refine r_assign ?_) | (apply at_cond; first | refine c_t ?_ | refine c_f ?_ | (refine aw_cond rfl (fun hb => ?_) (fun hb => ?_) <;> ((try have hq := dX hb); (try (exfalso; omega))))) | (apply qr_lss; refine r_lss ?_) | (apply qr_neq; refine r_neq ?_) | (apply qr_len; refine r_len ?_) | (apply qr_ix; refine r_ix ?_) | (apply qr_load; refine r_load ?_) | (apply qr_faddr; refine r_faddr ?_) | (apply qr_alloc; refine r_alloc ?_) | (apply qr_store; refine r_store ?_) | (apply qr_lits; refine r_lits ?_) | (apply qr_appd; refine r_appd ?_))
   rw [hN, hU]
   repeat' (first | refine nx ?_ | (apply aq_block_y; decide) | (apply qr_move; refine r_move ?_) | (apply qr_assign; refine r_assign ?_) | (apply at_cond; first | refine c_t ?_ | refine c_f ?_ | (refine aw_cond rfl (fun hb => ?_) (fun hb => ?_) <;> ((try have hq := dX hb); (try (exfalso; omega))))) | (apply qr_add; refine r_add ?_))
   refine aq_rd (⟨i + 1, k + 1, m + 1, rfl, by omega, rfl, rfl⟩) (by omega)
 ·obtain rfl : i = ls.length := by omega
  rw [List.take_length]
  have qi : decide ((ls.length : Int) < (ls.length : Int)) = false := decide_eq_false (by omega)
  have c4 := rnode_any 12 (by decide) (scopedU ls) e (scoped_range _ _ rfl hall) (by rw [scoped_len]; omega) hr (tame_wide he)
  generalize scopedU ls = sc at c4 hres
  cases hx : e.unitU sc with
  | ok u =>
   rw [hx] at c4 hres
   unfold valD at c4
   dsimp only at c4
   rw [hres]
   clear hres hx
   repeat' (first | (apply at_call; refine k_call (c4) hE ?_; rintro _ rfl) | refine nx ?_ | (apply aq_block_y; decide) | (apply qr_move; refine r_move ?_) | (apply at_cond; first | refine c_t ?_ | refine c_f ?_ | (refine aw_cond rfl (fun hb => ?_) (fun hb => ?_) <;> ((try have hq := dX hb); (try (exfalso; omega))))) | (apply qr_lss; refine r_lss ?_) | (apply qr_len; refine r_len ?_) | (apply qr_load; refine r_load ?_) | (apply qr_alloc; refine r_alloc ?_) | (apply qr_store; refine r_store ?_))
   refine aw_mixo ([(12, .box 66 [.d (.int u), .d (.list 1 []), .d (.int 0)])]) [(0, true), (1, true), (2, true), (3, true), (4, true), (5, true), (6, true), (7, true)] [8] (by kernel_rfl) (by kernel_rfl) (by kernel_rfl) (by decide) (by (repeat (first | exact obs_nil | (apply obs_cons; focus (first | rfl | (simp [find]; done)))))) ?_
   simp only [planned, tailed, List.filterMap_cons, List.filterMap_nil, List.getElem?_cons_zero, List.getElem?_cons_succ, Option.map_some]
   repeat' (first | apply am_nil | refine m_skip ?_ | refine n_skip ?_ | (apply qm_assign; refine m_assign ?_) | (apply qm_load; refine m_load ?_) | (apply qm_faddr; refine m_faddr ?_) | (refine am_split rfl rfl (fun hb => ?_) (fun hb => ?_) <;> ((try have hq := dX hb); (try (exfalso; omega)))))
   repeat' (first | refine nx ?_ | (apply aq_block_y; decide) | (apply qr_assign; refine r_assign ?_) | (apply at_cond; first | refine c_t ?_ | refine c_f ?_ | (refine aw_cond rfl (fun hb => ?_) (fun hb => ?_) <;> ((try have hq := dX hb); (try (exfalso; omega))))) | (apply qr_load; refine r_load ?_) | (apply qr_faddr; refine r_faddr ?_))
   refine ret_three (by rfl) (by first | exact ToD.d _ | exact ToD.row _ _ _ _ _ rfl) (by first | exact ToD.d _ | exact ToD.row _ _ _ _ _ rfl) (by first | exact ToD.d _ | exact ToD.row _ _ _ _ _ rfl) ?_
   rfl
  | bad p c =>
   rw [hx] at c4 hres
   unfold valD at c4
   dsimp only at c4
   rw [hres]
   clear hres hx
   repeat' (first | (apply at_call; refine k_call (c4) hE ?_; rintro _ rfl) | refine nx ?_ | (apply aq_block_y; decide) | (apply qr_move; refine r_move ?_) | (apply at_cond; first | refine c_t ?_ | refine c_f ?_ | (refine aw_cond rfl (fun hb => ?_) (fun hb => ?_) <;> ((try have hq := dX hb); (try (exfalso; omega))))) | (apply qr_lss; refine r_lss ?_) | (apply qr_len; refine r_len ?_) | (apply qr_load; refine r_load ?_) | (apply qr_alloc; refine r_alloc ?_) | (apply qr_store; refine r_store ?_))
   refine aw_mixo ([(12, valB 0 p c)]) [(0, true), (1, true), (2, true), (3, true), (4, true), (5, true), (6, true), (7, true)] [8] (by kernel_rfl) (by kernel_rfl) (by kernel_rfl) (by decide) (by (repeat (first | exact obs_nil | (apply obs_cons; focus (first | rfl | (simp [find]; done)))))) ?_
   simp only [planned, tailed, List.filterMap_cons, List.filterMap_nil, List.getElem?_cons_zero, List.getElem?_cons_succ, Option.map_some]
   repeat' (first | apply am_nil | refine m_skip ?_ | refine n_skip ?_ | (apply qm_assign; refine m_assign ?_) | (apply qm_load; refine m_load ?_) | (apply qm_faddr; refine m_faddr ?_) | (refine am_split rfl rfl (fun hb => ?_) (fun hb => ?_) <;> ((try have hq := dX hb); (try (exfalso; omega)))))
   repeat' (first | refine nx ?_ | (apply aq_block_y; decide) | (apply qr_assign; refine r_assign ?_) | (apply at_cond; first | refine c_t ?_ | refine c_f ?_ | (refine aw_cond rfl (fun hb => ?_) (fun hb => ?_) <;> ((try have hq := dX hb); (try (exfalso; omega))))) | (apply qr_load; refine r_load ?_) | (apply qr_faddr; refine r_faddr ?_))
   refine ret_three (by rfl) (by first | exact ToD.d _ | exact ToD.row _ _ _ _ _ rfl) (by first | exact ToD.d _ | exact ToD.row _ _ _ _ _ rfl) (by first | exact ToD.d _ | exact ToD.row _ _ _ _ _ rfl) ?_
   rfl
end Go.Proofs.Ytgiacdhffklenaa
end
