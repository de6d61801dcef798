/-
  Conditions: none.
-/
import Derived.Test.YtedoeogopmenpaaGreatDoorRows
import Derived.LaidLaws
import Derived.Handed
import Derived.Lib.LaidTab
import Derived.Stop.LaidErr
import Derived.Test.YtedoeogopmenpaaGreatDoorMay
set_option maxHeartbeats 16000000
set_option maxRecDepth 20000
section
set_option linter.unusedSimpArgs false
set_option linter.unusedVariables false
namespace Go.Proofs.YtedoeogopmenpaaGreatDoor
open Go.RowKit
theorem parse_nums {x : By} (h : x.Ok) (hz : x.text.size ≤ 4000) : parseV x.text = (x, 0, 0) := parse_laid h (by_laid h).laid (by
 have : x.text.size = (catL x.lines).length := List.size_toArray
 omega)
theorem one_lets (l : List (ByteArray × Ex)) : ∀ q ∈ l.map letC, ∀ z ∈ q, D.one z = true := by
 intro q hq z hz
 obtain ⟨p, _, rfl⟩ := List.mem_map.1 hq
 simp only [letC, List.mem_cons, List.not_mem_nil, or_false] at hz
 rcases hz with rfl | rfl | rfl | rfl | rfl | rfl <;> rfl
theorem printD_ok {x : By} (h : x.Ok) (hz : x.text.size ≤ 4000) : printD x = .tup [.str x.text, .int 0] := by
 unfold printD fitsD
 rw [if_pos (by rw [right_ref]; simp only [Bool.and_eq_true, withV_iff, List.all_eq_true]; exact ⟨h.name, h.admit, h.fare, h.late, h.noshow, h.quota, h.share, h.change, h.lets, h.uniq⟩), if_neg (by omega)]
theorem printD_full {x : By} (h : x.Ok) (hz : ¬ x.text.size ≤ 4000) : printD x = .tup [.str ⟨#[]⟩, .int 6] := by
 unfold printD fitsD
 rw [if_pos (by rw [right_ref]; simp only [Bool.and_eq_true, withV_iff, List.all_eq_true]; exact ⟨h.name, h.admit, h.fare, h.late, h.noshow, h.quota, h.share, h.change, h.lets, h.uniq⟩), if_pos (by omega)]
theorem tail_le {x : By} (h : x.Ok) : x.tail.size ≤ 100 := by
 have y1 := itoaB_size h.quota.1 (by have := h.quota.2; omega)
 have y2 := itoaB_size h.share.1 (by have := h.share.2; omega)
 have y3 := itoaB_size (n := x.change) (by have := h.change.1; omega) (by have := h.change.2; omega)
 unfold By.tail
 simp only [app_size, lit_size, List.length_cons, List.length_nil]
 omega
theorem lines_any (x : By) (a : Int) (ha : 0 ≤ a ∧ a ≤ 255) (cx : x.came) : PureC 6 [.agg (byC x), .val (.int .u8 a)] (· = .bool true) := by
 have f1 := few_any x cx
 refine pure_enter Tryz.func6 rfl (by decide) _ Tryz.ntmps6 (le_ok rfl) (fun w Pr hE => ?_)
 dsimp only [slotsOf, Nat.zero_add, Nat.reduceAdd]
 repeat' (first | (apply at_call; refine k_call (small_any) hE ?_; rintro _ rfl) | (apply at_call; refine k_call (f1) hE ?_; (rintro _ ⟨b1, rfl, t1⟩; clear f1; cases b1)) | refine nx ?_ | (apply qr_move; refine r_move ?_) | (apply qr_assign; refine r_assign ?_) | (apply at_cond; first | refine c_t ?_ | refine c_f ?_ | (refine aw_cond rfl (fun hb => ?_) (fun hb => ?_) <;> ((try have hq := dX hb); (try (exfalso; omega))))) | (apply qr_not; refine r_not ?_) | (apply qr_load; refine r_load ?_) | (apply qr_boxed; refine r_boxed ?_))
 ·skip
  refine rt1 ?_
  rfl
 obtain ⟨tx, hl22⟩ := t1 rfl
 clear t1
 have p1 := print_any x tx
 obtain ⟨s, g, hps, hs4, hcase⟩ : ∃ s g, printD x = .tup [.str s, .int g] ∧ s.size ≤ 4000 ∧ ((g = 0 ∧ s = x.text ∧ x.Ok) ∨ g = 1 ∨ g = 6) := by
  unfold printD
  split
  ·rename_i hr
   unfold fitsD
   split
   ·exact ⟨_, _, rfl, by decide, .inr (.inr rfl)⟩
   ·exact ⟨_, _, rfl, by omega, .inl ⟨rfl, rfl, by_ok hr⟩⟩
  ·exact ⟨_, _, rfl, by decide, .inr (.inl rfl)⟩
 rw [hps] at p1
 rcases hcase with ⟨rfl, rfl, ho⟩ | rfl | rfl
 rotate_left 1
 ·skip
  repeat' (first | (apply at_call; refine k_call (p1) hE ?_; rintro _ rfl) | refine nx ?_ | (apply qr_move; refine r_move ?_) | (apply qr_assign; refine r_assign ?_) | (apply at_cond; first | refine c_t ?_ | refine c_f ?_ | (refine aw_cond rfl (fun hb => ?_) (fun hb => ?_) <;> ((try have hq := dX hb); (try (exfalso; omega))))) | (apply qr_neq; refine r_neq ?_) | (apply qr_extract; refine r_extract ?_) | (apply qr_load; refine r_load ?_))
  refine rt1 ?_
  rfl
 ·skip
  repeat' (first | (apply at_call; refine k_call (p1) hE ?_; rintro _ rfl) | refine nx ?_ | (apply qr_move; refine r_move ?_) | (apply qr_assign; refine r_assign ?_) | (apply at_cond; first | refine c_t ?_ | refine c_f ?_ | (refine aw_cond rfl (fun hb => ?_) (fun hb => ?_) <;> ((try have hq := dX hb); (try (exfalso; omega))))) | (apply qr_neq; refine r_neq ?_) | (apply qr_extract; refine r_extract ?_) | (apply qr_load; refine r_load ?_))
  refine rt1 ?_
  rfl
 clear hps
 have hml : (x.lets.map letC).length = x.lets.length := List.length_map ..
 have p1' := p1
 repeat' (first | (apply at_call; refine k_call (p1) hE ?_; rintro _ rfl) | refine nx ?_ | (apply qr_move; refine r_move ?_) | (apply qr_assign; refine r_assign ?_) | (apply at_cond; first | refine c_t ?_ | refine c_f ?_ | (refine aw_cond rfl (fun hb => ?_) (fun hb => ?_) <;> ((try have hq := dX hb); (try (exfalso; omega))))) | (apply qr_neq; refine r_neq ?_) | (apply qr_extract; refine r_extract ?_) | (apply qr_load; refine r_load ?_))
 clear p1
 by_cases hn : 0 < x.lets.length
 ·have q1 : decide ((0 : Int) < (x.lets.length : Int)) = true := decide_eq_true (by omega)
  obtain ⟨k, hk⟩ : ∃ k : Nat, a % (x.lets.length : Int) = (k : Int) := ⟨(a % (x.lets.length : Int)).toNat, (Int.toNat_of_nonneg (Int.emod_nonneg _ (by omega))).symm⟩
  have hk1 : k < x.lets.length := by
   have := Int.emod_lt_of_pos a (show (0 : Int) < (x.lets.length : Int) by omega)
   omega
  repeat' (first | refine nx ?_ | (apply qr_move; refine r_move ?_) | (apply qr_assign; refine r_assign ?_) | (apply at_cond; first | refine c_t ?_ | refine c_f ?_ | (refine aw_cond rfl (fun hb => ?_) (fun hb => ?_) <;> ((try have hq := dX hb); (try (exfalso; omega))))) | (apply qr_gtr; refine r_gtr ?_) | (apply qr_rem; refine r_rem ?_) | (apply qr_conv; refine r_conv ?_) | (apply qr_len; refine r_len ?_) | (apply qr_load; refine r_load ?_) | (apply qr_faddr; refine r_faddr ?_) | (apply qr_alloc; refine r_alloc ?_) | (apply qr_store; refine r_store ?_))
  rw [hk]
  have hkl : (k : Int) + 1 ≤ x.lets.length := by omega
  refine aw_mixo ([(2, byO' x), (9, byO' x)]) [(1, true), (2, true), (3, true), (4, true), (6, true), (7, true), (8, true), (9, true), (10, true), (0, false), (5, false), (11, false)] [12, 13] (by kernel_rfl) (by kernel_rfl) (by kernel_rfl) (by decide) (by (repeat (first | exact obs_nil | (apply obs_cons; focus (first | rfl | (simp [find]; done)))))) ?_
  simp only [planned, tailed, List.filterMap_cons, List.filterMap_nil, List.getElem?_cons_zero, List.getElem?_cons_succ, Option.map_some]
  repeat' (first | apply am_nil | refine m_skip ?_ | refine n_skip ?_ | (apply at_am (.buildSlice _ 0 _); refine am_litR (parts := []) (dp := []) (l := []) (n := 0) (l2 := []) (by first | exact want_none | exact want_yes rfl rfl (by assumption) | exact want_yes rfl rfl (by with_reducible rfl)) rfl .nil (by simp [dfill, zerosD]) rfl (by simp) (by simp) (lt_ok rfl) rfl rfl rfl ?_) | (apply at_am (.call { callee := .builtin .append, args := _, argTypes := _ }); refine am_append (by first | exact want_none | exact want_yes rfl rfl (by assumption) | exact want_yes rfl rfl (by with_reducible rfl)) rfl rfl rfl (by first | exact ToD.d _ | exact ToD.row _ _ _ _ _ rfl) rfl rfl (fun q hq => one_lets x.lets q (List.mem_of_mem_take (List.mem_of_mem_drop hq))) (by decide) (by simp only [List.length_map, List.length_append, List.length_drop, List.length_take, List.length_nil]; omega) (by simp only [List.length_map, List.length_append, List.length_drop, List.length_take, List.length_nil]; omega) (lt_ok rfl) ?_) | (apply qm_move; refine m_move ?_) | (apply qm_add; refine m_add ?_) | (apply qm_slice; refine m_slice ?_) | (apply qm_load; refine m_load ?_) | (apply qm_faddr; refine m_faddr ?_) | (apply at_am (.buildSlice _ _ _); first | refine am_lit1 (by first | exact want_none | exact want_yes rfl rfl (by assumption) | exact want_yes rfl rfl (by with_reducible rfl)) rfl (by first | exact ToD.d _ | exact ToD.row _ _ _ _ _ rfl) (by first | (simp only [normV, normList, normMap]; rfl) | rfl) rfl (le_ok rfl) (lt_ok rfl) ?_ | refine am_lit (by first | exact want_none | exact want_yes rfl rfl (by assumption) | exact want_yes rfl rfl (by with_reducible rfl)) rfl (by repeat (first | exact PartsD.nil | (apply PartsD.cons; first | exact ToD.d _ | exact ToD.row _ _ _ _ _ rfl))) (by simp [dfill, putD, cellsD, zerosD, Value.cells]; rfl) (by first | (simp only [normV, normList, normMap]; rfl) | rfl) (by decide) (by decide) (lt_ok rfl) ?_) | (refine am_split rfl rfl (fun hb => ?_) (fun hb => ?_) <;> ((try have hq := dX hb); (try (exfalso; omega)))))
  repeat' (first | refine nx ?_ | (apply qr_move; refine r_move ?_) | (apply at_cond; first | refine c_t ?_ | refine c_f ?_ | (refine aw_cond rfl (fun hb => ?_) (fun hb => ?_) <;> ((try have hq := dX hb); (try (exfalso; omega))))) | (apply qr_add; refine r_add ?_) | (apply qr_slice; refine r_slice ?_) | (apply qr_load; refine r_load ?_) | (apply qr_faddr; refine r_faddr ?_) | (apply qr_store; refine r_store ?_) | (apply qr_lits; refine r_lits ?_) | (apply qr_appd; refine r_appd ?_))
  refine al_celltold 9 1 rfl rfl (ToD.row _ _ _ _ _ rfl) rfl ?_
  have hlist : ([] ++ List.drop 0 (List.take k (x.lets.map letC)) ++ List.drop (k + 1) (List.take (x.lets.map letC).length (x.lets.map letC))) = (lessL x.lets k).map letC := by
   rw [List.take_of_length_le (Nat.le_refl (x.lets.map letC).length)]
   simp [lessL, List.map_append, List.map_take, List.map_drop]
  rw [hlist]
  obtain ⟨u, v, hx1, hx2⟩ := text_cut x hk1
  have hsz : x.text.size = u.size + (lineV (letL x.lets[k])).size + v.size := by rw [hx1, ByteArray.size_append, ByteArray.size_append]
  have hla := lacks_any u (lineV (letL x.lets[k])) v (by omega) (by omega) (by omega)
  have hlt : (x.less k).text.size ≤ 4000 := by rw [hx2, ByteArray.size_append]; omega
  rw [← hx1, ← hx2, let_line] at hla
  have lo := less_ok ho k
  have py := print_any (x.less k) (less_tame tx k)
  rw [printD_ok lo hlt] at py
  have l1 : ByteArray.size ⟨#[108, 101, 116, 32]⟩ = 4 := rfl
  have l2 : ByteArray.size ⟨#[32, 61, 32]⟩ = 3 := rfl
  have l3 : ByteArray.size ⟨#[32, 59, 10]⟩ = 3 := rfl
  have s1 := app_size ⟨#[108, 101, 116, 32]⟩ x.lets[k].1
  have s2 := app_size (⟨#[108, 101, 116, 32]⟩ ++ x.lets[k].1) ⟨#[32, 61, 32]⟩
  have s3 := app_size (⟨#[108, 101, 116, 32]⟩ ++ x.lets[k].1 ++ ⟨#[32, 61, 32]⟩) (x.lets[k].2.text 0)
  have s4 := app_size (⟨#[108, 101, 116, 32]⟩ ++ x.lets[k].1 ++ ⟨#[32, 61, 32]⟩ ++ x.lets[k].2.text 0) ⟨#[32, 59, 10]⟩
  rw [let_line] at hsz
  have pb := printE_any x.lets[k].2 (tx.lets _ (List.getElem_mem hk1)).2
  have hpb : printED x.lets[k].2 = .tup [.str (x.lets[k].2.text 0), .int 0] := by
   unfold printED fitsD
   rw [if_pos (ho.lets _ (List.getElem_mem hk1)), if_neg (by omega)]
  rw [hpb] at pb
  have hg : (x.lets.map letC)[k]? = some (letC x.lets[k]) := by rw [get_map hk1]
  clear hpb hx1 hx2 lo
  generalize (x.less k).text = LT at py hla hlt
  generalize x.lets[k] = q at *
  repeat' (first | (apply at_call; refine k_call (py) hE ?_; rintro _ rfl) | refine nx ?_ | (apply qr_move; refine r_move ?_) | (apply qr_assign; refine r_assign ?_) | (apply at_cond; first | refine c_t ?_ | refine c_f ?_ | (refine aw_cond rfl (fun hb => ?_) (fun hb => ?_) <;> ((try have hq := dX hb); (try (exfalso; omega))))) | (apply qr_extract; refine r_extract ?_) | (apply qr_load; refine r_load ?_))
  repeat' (first | (apply at_op (.indexAddr _ _ _); refine al_ixq hg ?_) | (apply at_call; refine k_call (pb) hE ?_; rintro _ rfl) | refine nx ?_ | (apply qr_move; refine r_move ?_) | (apply qr_assign; refine r_assign ?_) | (apply at_cond; first | refine c_t ?_ | refine c_f ?_ | (refine aw_cond rfl (fun hb => ?_) (fun hb => ?_) <;> ((try have hq := dX hb); (try (exfalso; omega))))) | (apply qr_extract; refine r_extract ?_) | (apply qr_ix; refine r_ix ?_) | (apply qr_load; refine r_load ?_) | (apply qr_faddr; refine r_faddr ?_))
  repeat' (first | (apply at_op (.indexAddr _ _ _); refine al_ixq hg ?_) | (apply at_call; refine k_call (hla) hE ?_; rintro _ rfl) | refine nx ?_ | (apply qr_move; refine r_move ?_) | (apply at_cond; first | refine c_t ?_ | refine c_f ?_ | (refine aw_cond rfl (fun hb => ?_) (fun hb => ?_) <;> ((try have hq := dX hb); (try (exfalso; omega))))) | (apply at_guard; first | refine g_go ?_ | refine g_nt ?_ | refine g_nf ?_ | refine g_nu ?_ | ((first | refine al_split_t rfl rfl (lt_ok rfl) (fun hb => ?_) (fun hb => ?_) | refine al_split_f rfl rfl (lt_ok rfl) (fun hb => ?_) (fun hb => ?_)) <;> ((try have hq := dX hb); (try (exfalso; omega))))) | (apply qr_pick; refine r_pick ?_) | (apply qr_neq; refine r_neq ?_) | (apply qr_add; refine r_add ?_) | (apply qr_not; refine r_not ?_) | (apply qr_ix; refine r_ix ?_) | (apply qr_load; refine r_load ?_) | (apply qr_faddr; refine r_faddr ?_))
  refine al_less (sl' := [(97, .d (.agg (byC x))), (7, .d (.int 0)), (6, .d (.str x.text)), (5, .d (.bool true)), (4, .d (.val (.bool false))), (2, .box 2 0), (1, .d (.val (.int .u8 a)))]) (ob' := [(2, byO' x)]) (by (repeat (first | exact sub_nil | (apply sub_cons; focus (first | rfl | exact vint (by first | omega) | (simp [look]; done)))))) (by (repeat (first | exact obs_nil | (apply obs_cons; focus (first | rfl | (simp [find]; done)))))) ?_
  clear hla py pb hg
  have oz := nums_ok ho ha
  have pt := tail_any x ho
  have pu := tail_any (x.nums a) oz
  have pz := print_any (x.nums a) (nums_tame tx a)
  have hxs : x.text.size = x.fore.size + x.tail.size := by rw [text_fore, ByteArray.size_append]
  have hzs : (x.nums a).text.size = x.fore.size + (x.nums a).tail.size := by rw [text_fore, ByteArray.size_append, fore_nums]
  have hown : ((x.text.size : Nat) : Int) - (x.tail.size : Nat) = (x.fore.size : Nat) := by omega
  have he : x.text.extract 0 x.fore.size = x.fore := by rw [text_fore, ext_left]
  have hfs : (x.text.extract 0 x.fore.size).size = x.fore.size := extract_size (by omega)
  have hu : x.text.extract 0 x.fore.size ++ (x.nums a).tail = (x.nums a).text := by rw [he, text_fore (x.nums a), fore_nums]
  have pp : (x.nums a).text.size ≤ 4000 → PureC 9 [.str (x.nums a).text] (· = parseD (x.nums a, 0, 0)) := fun hz => by
   rw [← parse_nums oz hz]
   exact parse_any _ (by omega)
  have hk1 := fun hz => printD_ok oz hz
  have hk2 := fun hz => printD_full oz hz
  have pm := rsame_any (x.nums a) (x.nums a) (nums_tame tx a) (nums_tame tx a)
  rw [(bySame_iff _ _).2 rfl] at pm
  have hTU := tail_le oz
  clear oz he
  unfold parseD at pp
  generalize (x.nums a).text = TZ at *
  generalize (x.nums a).tail = TU at *
  generalize x.text = TX at *
  generalize x.tail = TT at *
  generalize x.fore.size = n at *
  by_cases hz : TZ.size ≤ 4000
  ·rw [hk1 hz] at pz
   replace pp := pp hz
   dsimp only at pp
   have q2 : decide ((n : Int) < 0) = false := decide_eq_false (by omega)
   have q3 : decide (TZ = TZ) = true := decide_eq_true rfl
   have hfl : (n : Int) ≤ TX.size := by omega
   clear hk1 hk2 ho
   repeat' (first | (apply at_call; refine k_call (pz) hE ?_; rintro _ rfl) | refine nx ?_ | (apply qr_move; refine r_move ?_) | (apply qr_assign; refine r_assign ?_) | (apply at_cond; first | refine c_t ?_ | refine c_f ?_ | (refine aw_cond rfl (fun hb => ?_) (fun hb => ?_) <;> ((try have hq := dX hb); (try (exfalso; omega))))) | (apply qr_conv; refine r_conv ?_) | (apply qr_extract; refine r_extract ?_) | (apply qr_load; refine r_load ?_) | (apply qr_faddr; refine r_faddr ?_) | (apply qr_alloc; refine r_alloc ?_) | (apply qr_store; refine r_store ?_))
   repeat' (first | (apply at_call; refine k_call (pt) hE ?_; rintro _ rfl) | refine nx ?_ | (apply qr_move; refine r_move ?_) | (apply qr_assign; refine r_assign ?_) | (apply at_cond; first | refine c_t ?_ | refine c_f ?_ | (refine aw_cond rfl (fun hb => ?_) (fun hb => ?_) <;> ((try have hq := dX hb); (try (exfalso; omega))))) | (apply qr_sub; refine r_sub ?_) | (apply qr_len; refine r_len ?_) | (apply qr_load; refine r_load ?_))
   rw [hown]
   repeat' (first | refine nx ?_ | (apply qr_move; refine r_move ?_) | (apply at_cond; first | refine c_t ?_ | refine c_f ?_ | (refine aw_cond rfl (fun hb => ?_) (fun hb => ?_) <;> ((try have hq := dX hb); (try (exfalso; omega))))) | (apply at_guard; first | refine g_go ?_ | refine g_nt ?_ | refine g_nf ?_ | refine g_nu ?_ | ((first | refine al_split_t rfl rfl (lt_ok rfl) (fun hb => ?_) (fun hb => ?_) | refine al_split_f rfl rfl (lt_ok rfl) (fun hb => ?_) (fun hb => ?_)) <;> ((try have hq := dX hb); (try (exfalso; omega))))) | (apply qr_pick; refine r_pick ?_) | (apply qr_lss; refine r_lss ?_) | (apply qr_eql; refine r_eql ?_) | (apply qr_neq; refine r_neq ?_))
   refine aw_mixo ([(14, byO' (x.nums a))]) [(0, true), (1, true), (2, true), (3, true), (4, false), (5, true)] [6] (by kernel_rfl) (by kernel_rfl) (by kernel_rfl) (by decide) (by (repeat (first | exact obs_nil | (apply obs_cons; focus (first | rfl | (simp [find]; done)))))) ?_
   simp only [planned, tailed, List.filterMap_cons, List.filterMap_nil, List.getElem?_cons_zero, List.getElem?_cons_succ, Option.map_some]
   repeat' (first | apply am_nil | refine m_skip ?_ | refine n_skip ?_ | (apply at_mcall; refine m_call (pu) hE ?_; rintro _ rfl; (try dsimp only [flat, D.plain, D.plainL])) | (apply qm_move; refine m_move ?_) | (apply qm_add; refine m_add ?_) | (apply qm_slice; refine m_slice ?_) | (apply qm_load; refine m_load ?_) | (refine am_split rfl rfl (fun hb => ?_) (fun hb => ?_) <;> ((try have hq := dX hb); (try (exfalso; omega)))))
   rw [hu]
   repeat' (first | (apply at_call; refine k_call (pp) hE ?_; rintro _ rfl) | (apply at_call; refine k_call (pm) hE ?_; rintro _ rfl) | refine nx ?_ | (apply qr_move; refine r_move ?_) | (apply qr_assign; refine r_assign ?_) | (apply at_cond; first | refine c_t ?_ | refine c_f ?_ | (refine aw_cond rfl (fun hb => ?_) (fun hb => ?_) <;> ((try have hq := dX hb); (try (exfalso; omega))))) | (apply at_guard; first | refine g_go ?_ | refine g_nt ?_ | refine g_nf ?_ | refine g_nu ?_ | ((first | refine al_split_t rfl rfl (lt_ok rfl) (fun hb => ?_) (fun hb => ?_) | refine al_split_f rfl rfl (lt_ok rfl) (fun hb => ?_) (fun hb => ?_)) <;> ((try have hq := dX hb); (try (exfalso; omega))))) | (apply qr_pick; refine r_pick ?_) | (apply qr_eql; refine r_eql ?_) | (apply qr_add; refine r_add ?_) | (apply qr_extract; refine r_extract ?_) | (apply qr_slice; refine r_slice ?_) | (apply qr_load; refine r_load ?_) | (apply qr_alloc; refine r_alloc ?_) | (apply qr_store; refine r_store ?_))
   refine rt1 ?_
   rfl
  ·rw [hk2 hz] at pz
   clear hk1 hk2 ho pp
   have q2 : decide ((4000 : Int) < (TX.size : Int) + (TU.size : Nat)) = true := decide_eq_true (by omega)
   repeat' (first | (apply at_call; refine k_call (pz) hE ?_; rintro _ rfl) | refine nx ?_ | (apply qr_move; refine r_move ?_) | (apply qr_assign; refine r_assign ?_) | (apply at_cond; first | refine c_t ?_ | refine c_f ?_ | (refine aw_cond rfl (fun hb => ?_) (fun hb => ?_) <;> ((try have hq := dX hb); (try (exfalso; omega))))) | (apply qr_conv; refine r_conv ?_) | (apply qr_extract; refine r_extract ?_) | (apply qr_load; refine r_load ?_) | (apply qr_faddr; refine r_faddr ?_) | (apply qr_alloc; refine r_alloc ?_) | (apply qr_store; refine r_store ?_))
   repeat' (first | (apply at_call; refine k_call (pt) hE ?_; rintro _ rfl) | refine nx ?_ | (apply qr_move; refine r_move ?_) | (apply qr_assign; refine r_assign ?_) | (apply at_cond; first | refine c_t ?_ | refine c_f ?_ | (refine aw_cond rfl (fun hb => ?_) (fun hb => ?_) <;> ((try have hq := dX hb); (try (exfalso; omega))))) | (apply qr_sub; refine r_sub ?_) | (apply qr_len; refine r_len ?_) | (apply qr_load; refine r_load ?_))
   repeat' (first | (apply at_call; refine k_call (pu) hE ?_; rintro _ rfl) | refine nx ?_ | (apply qr_move; refine r_move ?_) | (apply qr_assign; refine r_assign ?_) | (apply at_cond; first | refine c_t ?_ | refine c_f ?_ | (refine aw_cond rfl (fun hb => ?_) (fun hb => ?_) <;> ((try have hq := dX hb); (try (exfalso; omega))))) | (apply at_guard; first | refine g_go ?_ | refine g_nt ?_ | refine g_nf ?_ | refine g_nu ?_ | ((first | refine al_split_t rfl rfl (lt_ok rfl) (fun hb => ?_) (fun hb => ?_) | refine al_split_f rfl rfl (lt_ok rfl) (fun hb => ?_) (fun hb => ?_)) <;> ((try have hq := dX hb); (try (exfalso; omega))))) | (apply qr_pick; refine r_pick ?_) | (apply qr_gtr; refine r_gtr ?_) | (apply qr_eql; refine r_eql ?_) | (apply qr_add; refine r_add ?_) | (apply qr_len; refine r_len ?_) | (apply qr_load; refine r_load ?_))
   refine rt1 ?_
   exact congrArg (fun b => D.val (.bool b)) q2
 ·have q1 : decide ((0 : Int) < (x.lets.length : Int)) = false := decide_eq_false (by omega)
  repeat' (first | refine nx ?_ | (apply at_cond; first | refine c_t ?_ | refine c_f ?_ | (refine aw_cond rfl (fun hb => ?_) (fun hb => ?_) <;> ((try have hq := dX hb); (try (exfalso; omega))))) | (apply qr_gtr; refine r_gtr ?_) | (apply qr_len; refine r_len ?_) | (apply qr_load; refine r_load ?_) | (apply qr_faddr; refine r_faddr ?_))
  refine al_less (sl' := [(97, .d (.agg (byC x))), (7, .d (.int 0)), (6, .d (.str x.text)), (5, .d (.bool true)), (4, .d (.val (.bool false))), (2, .box 2 0), (1, .d (.val (.int .u8 a)))]) (ob' := [(2, byO' x)]) (by (repeat (first | exact sub_nil | (apply sub_cons; focus (first | rfl | exact vint (by first | omega) | (simp [look]; done)))))) (by (repeat (first | exact obs_nil | (apply obs_cons; focus (first | rfl | (simp [find]; done)))))) ?_
  have oz := nums_ok ho ha
  have pt := tail_any x ho
  have pu := tail_any (x.nums a) oz
  have pz := print_any (x.nums a) (nums_tame tx a)
  have hxs : x.text.size = x.fore.size + x.tail.size := by rw [text_fore, ByteArray.size_append]
  have hzs : (x.nums a).text.size = x.fore.size + (x.nums a).tail.size := by rw [text_fore, ByteArray.size_append, fore_nums]
  have hown : ((x.text.size : Nat) : Int) - (x.tail.size : Nat) = (x.fore.size : Nat) := by omega
  have he : x.text.extract 0 x.fore.size = x.fore := by rw [text_fore, ext_left]
  have hfs : (x.text.extract 0 x.fore.size).size = x.fore.size := extract_size (by omega)
  have hu : x.text.extract 0 x.fore.size ++ (x.nums a).tail = (x.nums a).text := by rw [he, text_fore (x.nums a), fore_nums]
  have pp : (x.nums a).text.size ≤ 4000 → PureC 9 [.str (x.nums a).text] (· = parseD (x.nums a, 0, 0)) := fun hz => by
   rw [← parse_nums oz hz]
   exact parse_any _ (by omega)
  have hk1 := fun hz => printD_ok oz hz
  have hk2 := fun hz => printD_full oz hz
  have pm := rsame_any (x.nums a) (x.nums a) (nums_tame tx a) (nums_tame tx a)
  rw [(bySame_iff _ _).2 rfl] at pm
  have hTU := tail_le oz
  clear oz he
  unfold parseD at pp
  generalize (x.nums a).text = TZ at *
  generalize (x.nums a).tail = TU at *
  generalize x.text = TX at *
  generalize x.tail = TT at *
  generalize x.fore.size = n at *
  by_cases hz : TZ.size ≤ 4000
  ·rw [hk1 hz] at pz
   replace pp := pp hz
   dsimp only at pp
   have q2 : decide ((n : Int) < 0) = false := decide_eq_false (by omega)
   have q3 : decide (TZ = TZ) = true := decide_eq_true rfl
   have hfl : (n : Int) ≤ TX.size := by omega
   clear hk1 hk2 ho
   repeat' (first | (apply at_call; refine k_call (pz) hE ?_; rintro _ rfl) | refine nx ?_ | (apply qr_move; refine r_move ?_) | (apply qr_assign; refine r_assign ?_) | (apply at_cond; first | refine c_t ?_ | refine c_f ?_ | (refine aw_cond rfl (fun hb => ?_) (fun hb => ?_) <;> ((try have hq := dX hb); (try (exfalso; omega))))) | (apply qr_conv; refine r_conv ?_) | (apply qr_extract; refine r_extract ?_) | (apply qr_load; refine r_load ?_) | (apply qr_faddr; refine r_faddr ?_) | (apply qr_alloc; refine r_alloc ?_) | (apply qr_store; refine r_store ?_))
   repeat' (first | (apply at_call; refine k_call (pt) hE ?_; rintro _ rfl) | refine nx ?_ | (apply qr_move; refine r_move ?_) | (apply qr_assign; refine r_assign ?_) | (apply at_cond; first | refine c_t ?_ | refine c_f ?_ | (refine aw_cond rfl (fun hb => ?_) (fun hb => ?_) <;> ((try have hq := dX hb); (try (exfalso; omega))))) | (apply qr_sub; refine r_sub ?_) | (apply qr_len; refine r_len ?_) | (apply qr_load; refine r_load ?_))
   rw [hown]
   repeat' (first | refine nx ?_ | (apply qr_move; refine r_move ?_) | (apply at_cond; first | refine c_t ?_ | refine c_f ?_ | (refine aw_cond rfl (fun hb => ?_) (fun hb => ?_) <;> ((try have hq := dX hb); (try (exfalso; omega))))) | (apply at_guard; first | refine g_go ?_ | refine g_nt ?_ | refine g_nf ?_ | refine g_nu ?_ | ((first | refine al_split_t rfl rfl (lt_ok rfl) (fun hb => ?_) (fun hb => ?_) | refine al_split_f rfl rfl (lt_ok rfl) (fun hb => ?_) (fun hb => ?_)) <;> ((try have hq := dX hb); (try (exfalso; omega))))) | (apply qr_pick; refine r_pick ?_) | (apply qr_lss; refine r_lss ?_) | (apply qr_eql; refine r_eql ?_) | (apply qr_neq; refine r_neq ?_))
   refine aw_mixo ([(14, byO' (x.nums a))]) [(0, true), (1, true), (2, true), (3, true), (4, false), (5, true)] [6] (by kernel_rfl) (by kernel_rfl) (by kernel_rfl) (by decide) (by (repeat (first | exact obs_nil | (apply obs_cons; focus (first | rfl | (simp [find]; done)))))) ?_
   simp only [planned, tailed, List.filterMap_cons, List.filterMap_nil, List.getElem?_cons_zero, List.getElem?_cons_succ, Option.map_some]
   repeat' (first | apply am_nil | refine m_skip ?_ | refine n_skip ?_ | (apply at_mcall; refine m_call (pu) hE ?_; rintro _ rfl; (try dsimp only [flat, D.plain, D.plainL])) | (apply qm_move; refine m_move ?_) | (apply qm_add; refine m_add ?_) | (apply qm_slice; refine m_slice ?_) | (apply qm_load; refine m_load ?_) | (refine am_split rfl rfl (fun hb => ?_) (fun hb => ?_) <;> ((try have hq := dX hb); (try (exfalso; omega)))))
   rw [hu]
   repeat' (first | (apply at_call; refine k_call (pp) hE ?_; rintro _ rfl) | (apply at_call; refine k_call (pm) hE ?_; rintro _ rfl) | refine nx ?_ | (apply qr_move; refine r_move ?_) | (apply qr_assign; refine r_assign ?_) | (apply at_cond; first | refine c_t ?_ | refine c_f ?_ | (refine aw_cond rfl (fun hb => ?_) (fun hb => ?_) <;> ((try have hq := dX hb); (try (exfalso; omega))))) | (apply at_guard; first | refine g_go ?_ | refine g_nt ?_ | refine g_nf ?_ | refine g_nu ?_ | ((first | refine al_split_t rfl rfl (lt_ok rfl) (fun hb => ?_) (fun hb => ?_) | refine al_split_f rfl rfl (lt_ok rfl) (fun hb => ?_) (fun hb => ?_)) <;> ((try have hq := dX hb); (try (exfalso; omega))))) | (apply qr_pick; refine r_pick ?_) | (apply qr_eql; refine r_eql ?_) | (apply qr_add; refine r_add ?_) | (apply qr_extract; refine r_extract ?_) | (apply qr_slice; refine r_slice ?_) | (apply qr_load; refine r_load ?_) | (apply qr_alloc; refine r_alloc ?_) | (apply qr_store; refine r_store ?_))
   refine rt1 ?_
   rfl
  ·rw [hk2 hz] at pz
   clear hk1 hk2 ho pp
   have q2 : decide ((4000 : Int) < (TX.size : Int) + (TU.size : Nat)) = true := decide_eq_true (by omega)
   repeat' (first | (apply at_call; refine k_call (pz) hE ?_; rintro _ rfl) | refine nx ?_ | (apply qr_move; refine r_move ?_) | (apply qr_assign; refine r_assign ?_) | (apply at_cond; first | refine c_t ?_ | refine c_f ?_ | (refine aw_cond rfl (fun hb => ?_) (fun hb => ?_) <;> ((try have hq := dX hb); (try (exfalso; omega))))) | (apply qr_conv; refine r_conv ?_) | (apply qr_extract; refine r_extract ?_) | (apply qr_load; refine r_load ?_) | (apply qr_faddr; refine r_faddr ?_) | (apply qr_alloc; refine r_alloc ?_) | (apply qr_store; refine r_store ?_))
   repeat' (first | (apply at_call; refine k_call (pt) hE ?_; rintro _ rfl) | refine nx ?_ | (apply qr_move; refine r_move ?_) | (apply qr_assign; refine r_assign ?_) | (apply at_cond; first | refine c_t ?_ | refine c_f ?_ | (refine aw_cond rfl (fun hb => ?_) (fun hb => ?_) <;> ((try have hq := dX hb); (try (exfalso; omega))))) | (apply qr_sub; refine r_sub ?_) | (apply qr_len; refine r_len ?_) | (apply qr_load; refine r_load ?_))
   repeat' (first | (apply at_call; refine k_call (pu) hE ?_; rintro _ rfl) | refine nx ?_ | (apply qr_move; refine r_move ?_) | (apply qr_assign; refine r_assign ?_) | (apply at_cond; first | refine c_t ?_ | refine c_f ?_ | (refine aw_cond rfl (fun hb => ?_) (fun hb => ?_) <;> ((try have hq := dX hb); (try (exfalso; omega))))) | (apply at_guard; first | refine g_go ?_ | refine g_nt ?_ | refine g_nf ?_ | refine g_nu ?_ | ((first | refine al_split_t rfl rfl (lt_ok rfl) (fun hb => ?_) (fun hb => ?_) | refine al_split_f rfl rfl (lt_ok rfl) (fun hb => ?_) (fun hb => ?_)) <;> ((try have hq := dX hb); (try (exfalso; omega))))) | (apply qr_pick; refine r_pick ?_) | (apply qr_gtr; refine r_gtr ?_) | (apply qr_eql; refine r_eql ?_) | (apply qr_add; refine r_add ?_) | (apply qr_len; refine r_len ?_) | (apply qr_load; refine r_load ?_))
   refine rt1 ?_
   exact congrArg (fun b => D.val (.bool b)) q2
end Go.Proofs.YtedoeogopmenpaaGreatDoor
end
section
namespace Go.Proofs.YtedoeogopmenpaaGreatDoor
open Go.ChangeShapes Go.WideShapes Go.ChangeAt Go.RowKit Go.Deep Go.Joins
abbrev laidL : List (String × DataW Unit) := [("math/bits.deBruijn32tab", Rows.laid_math_bits_deBruijn32tab), ("math/bits.deBruijn64tab", Rows.laid_math_bits_deBruijn64tab), ("internal/strconv.uint64pow10", Rows.laid_internal_strconv_uint64pow10), ("tonneau/lex.signs", Rows.laid_tonneau_lex_signs)]
theorem gP : Tryz.prog.globalNamed "internal/strconv.uint64pow10" = some 2 := by kernel_rfl
theorem signsN : Tryz.prog.globalNamed "tonneau/lex.signs" = some 0 := by kernel_rfl
theorem signsT : (Tryz.prog.globals[0]?).map (·.type) = some 138 := by kernel_rfl
theorem signsA : Tryz.prog.underlying 138 = some (.array 11 9) := by kernel_rfl
theorem signsC : Tryz.prog.cellsOf 9 = 1 := by kernel_rfl
theorem signsZ : Tryz.prog.cellsOf 138 = 11 := by kernel_rfl
theorem pow_data : (Rows.laid_internal_strconv_uint64pow10 : DataW Unit) = Lib.tabData .u64 Lib.pow10Tab := by
 unfold Rows.laid_internal_strconv_uint64pow10 Lib.tabData
 kernel_rfl
theorem env_cells {W : World} {Pr : Prot} {name : String} {g : Nat} {vs : List Value} {ds : List D} (hg : Tryz.prog.globalNamed name = some g) (hv : W.var? Tryz.prog name = some vs.toArray) (hP : ∀ o, Pr g o) (hl : vs.length = ds.length) (hr : ∀ (i : Nat) (v : Value) (d : D), vs[i]? = some v → ds[i]? = some d → RepD W Pr v d) :
  (∀ (j : Nat) (d : D), ds[j]? = some d → ∃ u, W.cell? ⟨g, j, none⟩ = some u ∧ Pr g j ∧ RepD W Pr u d) ∧ ∀ j, ds[j]? = none → W.cell? ⟨g, j, none⟩ = none ∧ Pr g j := by
 refine ⟨fun j d hd => ?_, fun j hd => ?_⟩
 ·have hj : j < vs.length := by rw [hl]; exact (List.getElem?_eq_some_iff.1 hd).1
  refine ⟨vs[j], (World.var?_cell hg hv j).trans (by simp [hj]), hP j, hr j _ d (List.getElem?_eq_getElem hj) hd⟩
 ·have hj : ds.length ≤ j := List.getElem?_eq_none_iff.1 hd
  exact ⟨(World.var?_cell hg hv j).trans (by simp; omega), hP j⟩
theorem var_lt {W : World} {name : String} {g : Nat} {cs : Array Value} (hg : Tryz.prog.globalNamed name = some g) (hv : W.var? Tryz.prog name = some cs) : g < W.heap.size := by
 simp only [World.var?, hg, Option.bind_some] at hv
 cases hh : W.heap[g]? with
 | none => rw [hh] at hv; cases hv
 | some o => exact (Array.getElem?_eq_some_iff.1 hh).1
theorem signs_cells {W : World} {rest : List (String × DataW Unit)} (h : laidMet Tryz.prog (("tonneau/lex.signs", Rows.laid_tonneau_lex_signs) :: rest) W) : W.var? Tryz.prog "tonneau/lex.signs" = some (signsL.map Value.string).toArray := by
 obtain ⟨ps, ⟨g, t, cs, fuel, p, q, hg, ht, hvar, hd, _, _⟩, _⟩ := h
 obtain rfl := Option.some.inj (signsN.symm.trans hg)
 obtain rfl := Option.some.inj (signsT.symm.trans ht)
 obtain ⟨xs, m, _, hx, hl, hn, hat⟩ := DataW.trod_array signsA hd
 rw [signsZ] at hl
 have hmap : xs.map (·.1) = signsL.map fun s => DataW.lit (.string s.data.toList) := by
  have := congrArg Prod.fst hx
  injection this with this
  exact this.symm
 rw [hvar]
 congr 1
 apply Array.ext'
 apply List.ext_getElem?
 intro j
 by_cases hj11 : j < 11
 ·obtain ⟨s, hs⟩ : ∃ s, signsL[j]? = some s := ⟨_, List.getElem?_eq_getElem (show j < signsL.length from hj11)⟩
  have h1 := hat j hj11
  rw [signsC, Nat.mul_one] at h1
  obtain ⟨x, hx2⟩ : ∃ x, xs[j]? = some x := ⟨_, List.getElem?_eq_getElem (by omega)⟩
  rw [hx2] at h1
  obtain ⟨z, hz, hx3, _⟩ := DataW.trod_string Tryz.underlying9 h1
  have h2 : (xs.map (·.1))[j]? = some x.1 := by rw [List.getElem?_map, hx2]; rfl
  rw [hmap, List.getElem?_map, hs, hx3] at h2
  have h3 : s = z := by
   simp only [Option.map_some, Option.some.injEq, DataW.lit.injEq, Lit.string.injEq] at h2
   apply ByteArray.ext
   exact Array.toList_inj.1 h2
  have h4 : cs.toList[j]? = some (.string z) := by
   have h5 := congrArg (fun l => l[0]?) hz
   simpa [List.getElem?_take, List.getElem?_drop] using h5
  rw [h4, List.getElem?_map, hs, h3]
  rfl
 ·rw [List.getElem?_eq_none (by omega), List.getElem?_eq_none (by rw [List.length_map]; show 11 ≤ j; omega)]
theorem env_of_laid {W : World} (h : laidMet Tryz.prog laidL W) : EnvOk W (fun b _ => b < W.heap.size) := by
 have h2 := h.tail.tail
 have hp := Lib.tabIs_of_head (t := 159) (e := 153) (n := 20) gP (by kernel_rfl) (by kernel_rfl) (by kernel_rfl) (by kernel_rfl) (by kernel_rfl) (pow_data ▸ h2)
 have hs := signs_cells h2.tail
 intro g l hm
 unfold laidG at hm
 rcases List.mem_cons.1 hm with e | hm
 ·cases e
  refine env_cells (Pr := fun b _ => b < W.heap.size) signsN hs (fun _ => var_lt signsN hs) (by simp) (fun i v d h1 h2 => ?_)
  rw [List.getElem?_map, Option.map_eq_some_iff] at h1 h2
  obtain ⟨s, h3, rfl⟩ := h1
  obtain ⟨s', h4, rfl⟩ := h2
  rw [h3] at h4
  cases h4
  exact .val _
 rcases List.mem_cons.1 hm with e | hm
 ·cases e
  refine env_cells (Pr := fun b _ => b < W.heap.size) gP hp (fun _ => var_lt gP hp) (by simp) (fun i v d h1 h2 => ?_)
  rw [List.getElem?_map, h1] at h2
  cases h2
  exact .val _
 ·cases hm
def dataVals : DataW Unit → List Value
 | .agg l => l.map fun
  | .lit (.int k z) => .int k z
  | _ => .nilFunc
 | _ => []
def setVar (h : Array Obj) (g : Nat) (vs : List Value) : Array Obj := h.modify g fun
 | .cells _ t frozen => .cells vs.toArray t frozen
 | o => o
noncomputable def laidWorld (os : Os) : World :=
 let w0 := World.holding Tryz.prog os ⟨#[], #[], []⟩
 { w0 with heap := setVar (setVar (setVar (setVar w0.heap 3 (dataVals Rows.laid_math_bits_deBruijn32tab)) 4 (dataVals Rows.laid_math_bits_deBruijn64tab)) 2 (dataVals Rows.laid_internal_strconv_uint64pow10)) 0 (signsL.map Value.string) }
theorem laid_met (os : Os) (args : Array Value) : laidMet Tryz.prog laidL ((laidWorld os).forCall (fun _ _ => 0) ⟨#[], args, []⟩).memory :=
 laidMet_of_run (ps := (List.range 32).map (MemPlace.cell 3) ++ (List.range 64).map (MemPlace.cell 4) ++ (List.range 20).map (MemPlace.cell 2) ++ (List.range 11).map (MemPlace.cell 0)) 8 (by kernel_rfl) (by kernel_rfl) (by kernel_rfl)
theorem law_call {f : FuncId} {ds : List D} {w : World} {vs : List Value} (h : PureC f ds (· = .bool true)) (hL : laidMet Tryz.prog laidL w) (hl : vs.length = ds.length)
  (hr : ∀ (i : Nat) (v : Value) (d : D), vs[i]? = some v → ds[i]? = some d → RepD w (fun b _ => b < w.heap.size) v d) :
  Calls Tryz.prog f vs.toArray w fun e w' => e = .returned (.bool true) ∧ Below w.heap.size w w' := by
 refine (h.2 w (fun b _ => b < w.heap.size) vs (fun _ _ h => h) (env_of_laid hL) hl hr).mono fun e w' ⟨v, r, he, hp, hrep, hb⟩ => ?_
 subst hp
 cases hrep
 exact ⟨he, hb⟩
end Go.Proofs.YtedoeogopmenpaaGreatDoor
end
section
namespace Go.Proofs.YtedoeogopmenpaaGreatDoor
open Go.ChangeShapes Go.WideShapes Go.ChangeAt Go.RowKit Go.Deep Go.Joins
section
variable {H : Type} {enc : TypeId × Value → H} {w : World} {base : Nat}
theorem cameL_of {a : List Ex} (h : ∀ x ∈ a, Ex.came x) : Ex.cameL a := by
 induction a with
 | nil => trivial
 | cons x r ih => exact ⟨h x (by simp), ih fun y hy => h y (by simp [hy])⟩
theorem maxLen_le {n : Nat} (h : n ≤ maxLen) : n ≤ 9223372036854775807 := by
 unfold maxLen at h
 omega
theorem showB_exp : ∀ N : Nat, ShowB N enc Tryz.prog w base 26 5 (fun e : Ex => exC e) Ex.came
 | 0 => fun fuel cs x hN _ => by
  have := data_pos x.1
  omega
 | N + 1 => by
  have ih := showB_exp N
  have hl := showB_list (t := 24) Tryz.underlying24 (by kernel_rfl) (by decide) ih
  exact (showB_struct Tryz.underlying26 (by kernel_rfl) (showsB_cons ((show_int Tryz.underlying3).b N) rfl (by kernel_rfl) (showsB_cons ((show_int Tryz.underlying3).b N) rfl (by kernel_rfl)
   (showsB_cons ((show_int Tryz.underlying3).b N) rfl (by kernel_rfl) (showsB_cons ((show_string Tryz.underlying9).b N) rfl (by kernel_rfl) (showsB_cons hl rfl (by kernel_rfl) showsB_nil)))))).as (fun e : Ex => exC e) _
   (fun x => .mk x.1 x.2.1 x.2.2.1 x.2.2.2.1 x.2.2.2.2.1) (fun a => congrArg (fun r => [D.int a.1, D.int a.2.1, D.int a.2.2.1, D.str a.2.2.2.1, D.list 5 r]) (rows_map a.2.2.2.2.1)) (fun x ⟨_, _, _, h4, h5, _⟩ => ⟨maxLen_le h4, maxLen_le h5.1, cameL_of h5.2⟩)
theorem show_exp : Show enc Tryz.prog w base 26 5 (fun e : Ex => exC e) Ex.came := ShowB.all showB_exp
theorem show_let : Show enc Tryz.prog w base 43 6 (fun q : ByteArray × Ex => letC q) (fun q => q.1.size ≤ 9223372036854775807 ∧ q.2.came) :=
 (show_struct Tryz.underlying43 (by kernel_rfl) (shows_cons (show_string Tryz.underlying9) rfl (by kernel_rfl) (shows_cons show_exp rfl (by kernel_rfl) shows_nil))).as (fun q : ByteArray × Ex => letC q) _
  (fun x => (x.1, x.2.1)) (fun _ => rfl) (fun x ⟨h1, h2, _⟩ => ⟨maxLen_le h1, h2⟩)
theorem show_lets : Show enc Tryz.prog w base 23 1 (fun l : List (ByteArray × Ex) => [.list 6 (l.map letC)]) (fun l => l.length ≤ maxLen ∧ ∀ q ∈ l, q.1.size ≤ 9223372036854775807 ∧ q.2.came) :=
 show_list Tryz.underlying23 (by kernel_rfl) (by decide) show_let
theorem show_by : Show enc Tryz.prog w base 28 25 (fun x : By => byC x) By.came :=
 (show_struct Tryz.underlying28 (by kernel_rfl) (shows_cons (show_string Tryz.underlying9) rfl (by kernel_rfl) (shows_cons show_lets rfl (by kernel_rfl) (shows_cons show_exp rfl (by kernel_rfl) (shows_cons show_exp rfl (by kernel_rfl) (shows_cons show_exp rfl (by kernel_rfl) (shows_cons show_exp rfl (by kernel_rfl)
  (shows_cons (show_int Tryz.underlying3) rfl (by kernel_rfl) (shows_cons (show_int Tryz.underlying3) rfl (by kernel_rfl) (shows_cons (show_int Tryz.underlying3) rfl (by kernel_rfl) shows_nil)))))))))).as (fun x : By => byC x) _
  (fun x => ⟨x.1, x.2.1, x.2.2.1, x.2.2.2.1, x.2.2.2.2.1, x.2.2.2.2.2.1, x.2.2.2.2.2.2.1, x.2.2.2.2.2.2.2.1, x.2.2.2.2.2.2.2.2.1⟩) (fun _ => rfl) (fun x ⟨h1, h2, h3, h4, h5, h6, _⟩ => ⟨maxLen_le h1, maxLen_le h2.1, h2.2, h3, h4, h5, h6⟩)
end
end Go.Proofs.YtedoeogopmenpaaGreatDoor
end
