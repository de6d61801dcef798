/-
  Conditions: none.
-/
import Derived.Test.YtedoeogopmenpaaGreatDoorMal
set_option maxHeartbeats 16000000
set_option maxRecDepth 20000
section
set_option linter.unusedSimpArgs false
set_option linter.unusedVariables false
namespace Go.Proofs.YtedoeogopmenpaaGreatDoor
open Go.RowKit
def endTok (p : Nat) : Tok := ⟨3, ⟨#[]⟩, 0, p⟩
def skip (s : ByteArray) (p : Nat) : Nat := p + pre isBlank (s.extract p s.size)
def lexF (s : ByteArray) : Nat → Nat → List Tok → List Tok × Int × Int
 | 0, _, _ => ([], 0, 0)
 | n + 1, p, out =>
  if skip s p = s.size then (out ++ [endTok s.size], 0, 0)
  else if (tokenV s (skip s p)).2 = 0 then lexF s n (skip s p + (tokenV s (skip s p)).1.s.size) (out ++ [(tokenV s (skip s p)).1])
  else ([], skip s p, (tokenV s (skip s p)).2)
def lexV (s : ByteArray) : List Tok × Int × Int := if s.size > 4000 then ([], 0, 6) else lexF s (s.size + 1) 0 []
def lexD (r : List Tok × Int × Int) : D := .tup [.list 4 (r.1.map Tok.cells), .int r.2.1, .int r.2.2]
theorem skip_le {s : ByteArray} {p : Nat} (h : p ≤ s.size) : p ≤ skip s p ∧ skip s p ≤ s.size := by
 have h1 := pre_le isBlank (s.extract p s.size)
 have h2 : (s.extract p s.size).size = s.size - p := by simp
 unfold skip
 omega
theorem tokenV_size {s : ByteArray} {p : Nat} (hp : p < s.size) (he : (tokenV s p).2 = 0) : 0 < (tokenV s p).1.s.size ∧ p + (tokenV s p).1.s.size ≤ s.size := by
 have hz : (s.extract p s.size).size = s.size - p := by simp
 have h0 : bAt (s.extract p s.size) 0 = bAt s p := by rw [bAt_ext (by omega) (Nat.le_refl _), Nat.add_zero]
 have hpos : ∀ F : UInt8 → Bool, F (bAt s p) = true → 0 < pre F (s.extract p s.size) := by
  intro F hF
  rcases Nat.eq_zero_or_pos (pre F (s.extract p s.size)) with h | h
  ·exfalso
   have h1 := pre_stop (F := F) (s := s.extract p s.size) (by omega)
   rw [h, h0, hF] at h1
   cases h1
  ·exact h
 have hle : ∀ F : UInt8 → Bool, pre F (s.extract p s.size) ≤ s.size - p := fun F => by have := pre_le F (s.extract p s.size); omega
 cases hl : letterB (bAt s p)
 ·cases hd : digitB (bAt s p)
  ·rw [token_sign hl hd hp] at he ⊢
   have h1 := signTo_bd hp
   by_cases h2 : signTo s p = 0
   ·rw [if_pos h2] at he; cases he
   ·rw [if_neg h2]
    simp only [ByteArray.size_extract]
    omega
  ·have h1 := hpos digitB hd
   have h2 := hle digitB
   rw [token_num (k := p + pre digitB (s.extract p s.size)) hl hd (by omega) (by omega) (by omega)] at he ⊢
   split
   ·simp only [ByteArray.size_extract]
    omega
   ·rename_i h3
    rw [if_neg h3] at he
    cases he
 ·have h1 := hpos alnumB (alnum_of hl)
  have h2 := hle alnumB
  rw [token_word (k := p + pre alnumB (s.extract p s.size)) hl (by omega) (by omega) (by omega)] at he ⊢
  split
  ·simp only [ByteArray.size_extract]
   omega
  ·rename_i h3
   rw [if_neg h3] at he
   cases he
theorem lexF_more {s : ByteArray} {n m p : Nat} {out : List Tok} (hn : s.size - p < n) (hm : s.size - p < m) (hp : p ≤ s.size) : lexF s n p out = lexF s m p out := by
 induction n generalizing m p out with
 | zero => omega
 | succ n ih =>
  cases m with
  | zero => omega
  | succ m =>
   have h1 := skip_le hp
   simp only [lexF]
   split
   ·rfl
   ·split
    ·rename_i h2 h3
     have h4 := tokenV_size (s := s) (p := skip s p) (by omega) h3
     exact ih (by omega) (by omega) (by omega)
    ·rfl
theorem nextV_of {s : ByteArray} {p : Nat} : (tokenV s p) = (if (nextV (s.extract p s.size)).2 = 0 then ({ (nextV (s.extract p s.size)).1 with p := p }, 0) else (Tok.zero, (nextV (s.extract p s.size)).2)) := rfl
theorem lexF_next {s : ByteArray} {p : Nat} {toks : List Tok} {t : Tok} (hp : p ≤ s.size) (hend : ¬ skip s p = s.size) (hV : tokenV s (skip s p) = (t, 0)) : lexF s (s.size - p + 1) p toks = lexF s (s.size - (skip s p + t.s.size) + 1) (skip s p + t.s.size) (toks ++ [t]) := by
 have h1 := skip_le hp
 have h2 := tokenV_size (s := s) (p := skip s p) (by omega) (by rw [hV])
 rw [hV] at h2
 simp only at h2
 rw [lexF, if_neg hend, hV, if_pos rfl]
 show lexF s (s.size - p) (skip s p + t.s.size) (toks ++ [t]) = _
 exact lexF_more (by omega) (by omega) (by omega)
theorem lexF_err {s : ByteArray} {p : Nat} {toks : List Tok} {t : Tok} {e : Int} (hend : ¬ skip s p = s.size) (hV : tokenV s (skip s p) = (t, e)) (he : ¬ e = 0) : lexF s (s.size - p + 1) p toks = ([], (skip s p : Int), e) := by
 rw [lexF, if_neg hend, hV, if_neg he]
theorem skip_stop {s : ByteArray} {p : Nat} (hp : p < s.size) (h : isBlank (bAt s p) = false) : skip s p = p := by
 have h1 := pre_ext (F := isBlank) (Nat.le_refl p) (Nat.le_of_lt hp) (fun j h1 h2 => by omega) (fun _ => h)
 unfold skip
 omega
theorem skip_fact {s : ByteArray} {p : Nat} (hp : p ≤ s.size) : (∀ j, p ≤ j → j < skip s p → isBlank (bAt s j) = true) ∧ (skip s p < s.size → isBlank (bAt s (skip s p)) = false) := by
 have hz : (s.extract p s.size).size = s.size - p := by simp
 have hl := pre_le isBlank (s.extract p s.size)
 have e : skip s p = p + pre isBlank (s.extract p s.size) := rfl
 rw [e]
 refine ⟨fun j h1 h2 => ?_, fun h => ?_⟩
 ·have h3 := pre_lt (F := isBlank) (s := s.extract p s.size) (j := j - p) (by omega)
  rw [bAt_ext (by omega) (Nat.le_refl _), show p + (j - p) = j by omega] at h3
  exact h3
 ·have h3 := pre_stop (F := isBlank) (s := s.extract p s.size) (by omega)
  rw [bAt_ext (by omega) (Nat.le_refl _)] at h3
  exact h3
theorem skip_is {s : ByteArray} {p k : Nat} (hpk : p ≤ k) (hk : k ≤ s.size) (h1 : ∀ j, p ≤ j → j < k → isBlank (bAt s j) = true) (h2 : k < s.size → isBlank (bAt s k) = false) : skip s p = k := by
 have h3 := pre_ext (F := isBlank) hpk hk h1 h2
 unfold skip
 omega
theorem skip_more {s : ByteArray} {p : Nat} (hp : p < s.size) (h : isBlank (bAt s p) = true) : skip s p = skip s (p + 1) := by
 obtain ⟨h1, h2⟩ := skip_fact (s := s) (p := p + 1) (by omega)
 have h3 := skip_le (s := s) (p := p + 1) (by omega)
 refine skip_is (by omega) h3.2 (fun j h4 h5 => ?_) h2
 by_cases h6 : j = p
 ·rw [h6]; exact h
 ·exact h1 j (by omega) h5
theorem skip_def (s : ByteArray) (p : Nat) : skip s p = p + pre isBlank (s.extract p s.size) := rfl
attribute [local irreducible] nextV tokenV lexV pre ByteArray.extract lexF skip
theorem lex_any (s : ByteArray) (hs : s.size ≤ 1000000) : PureC 31 [.str s] (· = lexD (lexV s)) := by
 refine pure_enter Tryz.func31 rfl (by decide) _ Tryz.ntmps31 (le_ok rfl) (fun w Pr hE => ?_)
 dsimp only [slotsOf, Nat.zero_add, Nat.reduceAdd]
 by_cases hbig : 4000 < s.size
 ·skip
  repeat' (first | refine nx ?_ | (apply aq_block_y; decide) | (apply qr_move; refine r_move ?_) | (apply qr_assign; refine r_assign ?_) | (apply at_cond; first | refine c_t ?_ | refine c_f ?_ | (refine aw_cond rfl (fun hb => ?_) (fun hb => ?_) <;> ((try have hq := dX hb); (try (exfalso; omega))))) | (apply qr_gtr; refine r_gtr ?_) | (apply qr_eql; refine r_eql ?_) | (apply qr_neq; refine r_neq ?_) | (apply qr_add; refine r_add ?_) | (apply qr_len; refine r_len ?_) | (apply qr_extract; refine r_extract ?_) | (apply qr_slice; refine r_slice ?_) | (apply at_op (.load _ _); first | refine al_y (y_load1 rfl rfl rfl) (lt_ok rfl) ?_ | refine al_y (y_loadA rfl rfl (take_all rfl rfl) rfl) (lt_ok rfl) ?_ | refine al_y (y_loadA rfl rfl rfl rfl) (lt_ok rfl) ?_ | refine al_y (y_bload1 rfl rfl rfl rfl) (lt_ok rfl) ?_ | refine al_y (y_bloadA rfl rfl rfl (by first | (simp only [normV, normList, normMap, Tok.cells]; rfl) | rfl) rfl) (lt_ok rfl) ?_ | refine al_y (y_glob hE (by unfold laidG; first | exact List.Mem.head _ | exact .tail _ (.head _) | exact .tail _ (.tail _ (.head _))) rfl rfl) (lt_ok rfl) ?_) | (apply qr_faddr; refine r_faddr ?_) | (apply at_op (.alloc _); refine al_step (st_alloc rfl (by first | (simp only [normV, normList, normMap, Tok.cells]; rfl) | rfl) rfl (lt_ok rfl) rfl) rfl ?_) | (apply at_op (.store _ _ _); first | refine al_step (st_store rfl rfl (ev_d rfl) nofun (by first | (simp only [normV, normList, normMap, Tok.cells]; rfl) | rfl) (by simp [V.one, Value.oneCell', Tok.cells]) (.inl ⟨rfl, rfl⟩) rfl (le_ok rfl) (by first | (simp only [normV, normList, normMap, Tok.cells]; rfl) | rfl)) rfl ?_ | refine al_step (st_store rfl rfl (ev_d rfl) nofun (by first | (simp only [normV, normList, normMap, Tok.cells]; rfl) | rfl) (by simp [V.one, Value.oneCell', Tok.cells]) (.inr rfl) rfl (le_ok rfl) (by first | (simp only [normV, normList, normMap, Tok.cells]; rfl) | rfl)) rfl ?_ | refine al_step (st_store rfl rfl (ev_row rfl) nofun (by first | (simp only [normV, normList, normMap, Tok.cells]; rfl) | rfl) (by simp [V.one, Value.oneCell', Tok.cells]) (.inl ⟨rfl, rfl⟩) rfl (le_ok rfl) (by first | (simp only [normV, normList, normMap, Tok.cells]; rfl) | rfl)) rfl ?_ | refine al_step (st_store rfl rfl (ev_box rfl) nofun (by first | (simp only [normV, normList, normMap, Tok.cells]; rfl) | rfl) (by simp [V.one, Value.oneCell', Tok.cells]) (.inl ⟨rfl, rfl⟩) rfl (le_ok rfl) (by first | (simp only [normV, normList, normMap, Tok.cells]; rfl) | rfl)) rfl ?_) | (apply at_op (.build _ _); first | refine al_y (y_build rfl (by repeat (first | exact PartsD.nil | (apply PartsD.cons; first | exact ToD.d _ | exact ToD.row _ _ _ _ _ rfl))) (by first | (simp only [dfill, normV, normList, normMap, Tok.cells]; rfl) | (simp [dfill, putD, cellsD, zerosD, Value.cells, Tok.cells]; rfl))) (lt_ok rfl) ?_ | refine al_y (y_buildA rfl (by repeat (first | exact PartsV.nil _ | (apply PartsV.cons; constructor; rfl))) (by rfl) (by rfl)) (lt_ok rfl) ?_ | refine al_y (y_buildV rfl (by repeat (first | exact PartsV.nil _ | (apply PartsV.cons; constructor; rfl))) (by rfl)) (lt_ok rfl) ?_) | (apply at_op (.buildSlice _ _ _); first | refine al_step (st_lit1 rfl (by first | exact ToD.d _ | exact ToD.row _ _ _ _ _ rfl) (by first | (simp only [normV, normList, normMap, Tok.cells]; rfl) | rfl) rfl (le_ok rfl) (lt_ok rfl)) rfl ?_ | refine al_step (st_lit rfl (by repeat (first | exact PartsD.nil | (apply PartsD.cons; first | exact ToD.d _ | exact ToD.row _ _ _ _ _ rfl))) (by simp [dfill, putD, cellsD, zerosD, Value.cells, Tok.cells]; rfl) (by first | (simp only [normV, normList, normMap, Tok.cells]; rfl) | rfl) (by decide) (by decide) (lt_ok rfl)) rfl ?_) | (apply at_op (.call { callee := .builtin .append, args := _, argTypes := _ }); refine al_step (st_append rfl rfl (by first | exact ToD.d _ | exact ToD.row _ _ _ _ _ rfl) rfl rfl (by simp [D.one, Value.oneCell', Tok.cells]) (by decide) (by first | (simp only [List.length_map, List.length_append, List.length_cons, List.length_nil]; omega) | omega) (by first | (simp only [List.length_map, List.length_append, List.length_cons, List.length_nil]; omega) | omega) (lt_ok rfl)) rfl ?_))
  refine ret_three (by rfl) (ToD.nil 4) (ToD.d _) (ToD.d _) ?_
  unfold lexV
  rw [if_pos hbig]
  rfl
 have hlex : lexV s = lexF s (s.size + 1) 0 [] := by unfold lexV; rw [if_neg hbig]
 repeat' (first | refine nx ?_ | (apply aq_block_y; decide) | (apply qr_move; refine r_move ?_) | (apply qr_assign; refine r_assign ?_) | (apply at_cond; first | refine c_t ?_ | refine c_f ?_ | (refine aw_cond rfl (fun hb => ?_) (fun hb => ?_) <;> ((try have hq := dX hb); (try (exfalso; omega))))) | (apply qr_gtr; refine r_gtr ?_) | (apply qr_eql; refine r_eql ?_) | (apply qr_neq; refine r_neq ?_) | (apply qr_add; refine r_add ?_) | (apply qr_len; refine r_len ?_) | (apply qr_extract; refine r_extract ?_) | (apply qr_slice; refine r_slice ?_) | (apply at_op (.load _ _); first | refine al_y (y_load1 rfl rfl rfl) (lt_ok rfl) ?_ | refine al_y (y_loadA rfl rfl (take_all rfl rfl) rfl) (lt_ok rfl) ?_ | refine al_y (y_loadA rfl rfl rfl rfl) (lt_ok rfl) ?_ | refine al_y (y_bload1 rfl rfl rfl rfl) (lt_ok rfl) ?_ | refine al_y (y_bloadA rfl rfl rfl (by first | (simp only [normV, normList, normMap, Tok.cells]; rfl) | rfl) rfl) (lt_ok rfl) ?_ | refine al_y (y_glob hE (by unfold laidG; first | exact List.Mem.head _ | exact .tail _ (.head _) | exact .tail _ (.tail _ (.head _))) rfl rfl) (lt_ok rfl) ?_) | (apply qr_faddr; refine r_faddr ?_) | (apply at_op (.alloc _); refine al_step (st_alloc rfl (by first | (simp only [normV, normList, normMap, Tok.cells]; rfl) | rfl) rfl (lt_ok rfl) rfl) rfl ?_) | (apply at_op (.store _ _ _); first | refine al_step (st_store rfl rfl (ev_d rfl) nofun (by first | (simp only [normV, normList, normMap, Tok.cells]; rfl) | rfl) (by simp [V.one, Value.oneCell', Tok.cells]) (.inl ⟨rfl, rfl⟩) rfl (le_ok rfl) (by first | (simp only [normV, normList, normMap, Tok.cells]; rfl) | rfl)) rfl ?_ | refine al_step (st_store rfl rfl (ev_d rfl) nofun (by first | (simp only [normV, normList, normMap, Tok.cells]; rfl) | rfl) (by simp [V.one, Value.oneCell', Tok.cells]) (.inr rfl) rfl (le_ok rfl) (by first | (simp only [normV, normList, normMap, Tok.cells]; rfl) | rfl)) rfl ?_ | refine al_step (st_store rfl rfl (ev_row rfl) nofun (by first | (simp only [normV, normList, normMap, Tok.cells]; rfl) | rfl) (by simp [V.one, Value.oneCell', Tok.cells]) (.inl ⟨rfl, rfl⟩) rfl (le_ok rfl) (by first | (simp only [normV, normList, normMap, Tok.cells]; rfl) | rfl)) rfl ?_ | refine al_step (st_store rfl rfl (ev_box rfl) nofun (by first | (simp only [normV, normList, normMap, Tok.cells]; rfl) | rfl) (by simp [V.one, Value.oneCell', Tok.cells]) (.inl ⟨rfl, rfl⟩) rfl (le_ok rfl) (by first | (simp only [normV, normList, normMap, Tok.cells]; rfl) | rfl)) rfl ?_) | (apply at_op (.build _ _); first | refine al_y (y_build rfl (by repeat (first | exact PartsD.nil | (apply PartsD.cons; first | exact ToD.d _ | exact ToD.row _ _ _ _ _ rfl))) (by first | (simp only [dfill, normV, normList, normMap, Tok.cells]; rfl) | (simp [dfill, putD, cellsD, zerosD, Value.cells, Tok.cells]; rfl))) (lt_ok rfl) ?_ | refine al_y (y_buildA rfl (by repeat (first | exact PartsV.nil _ | (apply PartsV.cons; constructor; rfl))) (by rfl) (by rfl)) (lt_ok rfl) ?_ | refine al_y (y_buildV rfl (by repeat (first | exact PartsV.nil _ | (apply PartsV.cons; constructor; rfl))) (by rfl)) (lt_ok rfl) ?_) | (apply at_op (.buildSlice _ _ _); first | refine al_step (st_lit1 rfl (by first | exact ToD.d _ | exact ToD.row _ _ _ _ _ rfl) (by first | (simp only [normV, normList, normMap, Tok.cells]; rfl) | rfl) rfl (le_ok rfl) (lt_ok rfl)) rfl ?_ | refine al_step (st_lit rfl (by repeat (first | exact PartsD.nil | (apply PartsD.cons; first | exact ToD.d _ | exact ToD.row _ _ _ _ _ rfl))) (by simp [dfill, putD, cellsD, zerosD, Value.cells, Tok.cells]; rfl) (by first | (simp only [normV, normList, normMap, Tok.cells]; rfl) | rfl) (by decide) (by decide) (lt_ok rfl)) rfl ?_) | (apply at_op (.call { callee := .builtin .append, args := _, argTypes := _ }); refine al_step (st_append rfl rfl (by first | exact ToD.d _ | exact ToD.row _ _ _ _ _ rfl) rfl rfl (by simp [D.one, Value.oneCell', Tok.cells]) (by decide) (by first | (simp only [List.length_map, List.length_append, List.length_cons, List.length_nil]; omega) | omega) (by first | (simp only [List.length_map, List.length_append, List.length_cons, List.length_nil]; omega) | omega) (lt_ok rfl)) rfl ?_))
 refine aw_adopt 5 5 52 4 rfl rfl (lt_ok rfl) ?_
 refine aw_loop2 (fun n sl ob => ∃ (p k : Nat) (toks : List Tok), n = s.size - p ∧ p ≤ s.size ∧ toks.length ≤ p ∧ lexV s = lexF s (s.size - p + 1) p toks ∧ sl = [(6, .d (.int p)), (5, .row 5 k), (4, .d (.int 0)), (3, .d (.int 0)), (0, .d (.str s))] ∧ ob = [(5, .row 52 4 k (toks.map Tok.cells))]) (_) _ _ (⟨0, 0, [], rfl, by omega, by simp, hlex, rfl, rfl⟩) ?_ ?_ ?_
 ·(repeat (first | exact sub_nil | (apply sub_cons; focus (first | rfl | exact vint (by first | omega | (simp only [Tok.cells]; omega)) | (simp [look, Tok.cells]; done)))))
 ·(repeat (first | exact obs_nil | (apply obs_cons; focus (first | rfl | (simp [find, Tok.cells]; done)))))
 rintro n sl ob ⟨p, k, toks, rfl, hp, htl, hlx, rfl, rfl⟩
 have hsk := skip_le hp
 have hz : (s.extract p s.size).size = s.size - p := by simp
 have hpl := pre_le isBlank (s.extract p s.size)
 have hskd := skip_def s p
 by_cases hend : skip s p = s.size
 ·have hend2 : p + pre isBlank (s.extract p s.size) = s.size := hskd ▸ hend
  have e1 := decide_eq_true (show (p : Int) + (pre isBlank (s.extract p s.size) : Nat) = s.size by omega)
  repeat' (first | (apply at_call; refine k_call (span_any (s.extract p s.size) 76 isBlank (by omega) blank_any) hE ?_; rintro _ rfl) | refine nx ?_ | (apply aq_block_y; decide) | (apply qr_move; refine r_move ?_) | (apply qr_assign; refine r_assign ?_) | (apply at_cond; first | refine c_t ?_ | refine c_f ?_ | (refine aw_cond rfl (fun hb => ?_) (fun hb => ?_) <;> ((try have hq := dX hb); (try (exfalso; omega))))) | (apply qr_gtr; refine r_gtr ?_) | (apply qr_eql; refine r_eql ?_) | (apply qr_neq; refine r_neq ?_) | (apply qr_add; refine r_add ?_) | (apply qr_len; refine r_len ?_) | (apply qr_extract; refine r_extract ?_) | (apply qr_slice; refine r_slice ?_) | (apply at_op (.load _ _); first | refine al_y (y_load1 rfl rfl rfl) (lt_ok rfl) ?_ | refine al_y (y_loadA rfl rfl (take_all rfl rfl) rfl) (lt_ok rfl) ?_ | refine al_y (y_loadA rfl rfl rfl rfl) (lt_ok rfl) ?_ | refine al_y (y_bload1 rfl rfl rfl rfl) (lt_ok rfl) ?_ | refine al_y (y_bloadA rfl rfl rfl (by first | (simp only [normV, normList, normMap, Tok.cells]; rfl) | rfl) rfl) (lt_ok rfl) ?_ | refine al_y (y_glob hE (by unfold laidG; first | exact List.Mem.head _ | exact .tail _ (.head _) | exact .tail _ (.tail _ (.head _))) rfl rfl) (lt_ok rfl) ?_) | (apply qr_faddr; refine r_faddr ?_) | (apply at_op (.alloc _); refine al_step (st_alloc rfl (by first | (simp only [normV, normList, normMap, Tok.cells]; rfl) | rfl) rfl (lt_ok rfl) rfl) rfl ?_) | (apply at_op (.store _ _ _); first | refine al_step (st_store rfl rfl (ev_d rfl) nofun (by first | (simp only [normV, normList, normMap, Tok.cells]; rfl) | rfl) (by simp [V.one, Value.oneCell', Tok.cells]) (.inl ⟨rfl, rfl⟩) rfl (le_ok rfl) (by first | (simp only [normV, normList, normMap, Tok.cells]; rfl) | rfl)) rfl ?_ | refine al_step (st_store rfl rfl (ev_d rfl) nofun (by first | (simp only [normV, normList, normMap, Tok.cells]; rfl) | rfl) (by simp [V.one, Value.oneCell', Tok.cells]) (.inr rfl) rfl (le_ok rfl) (by first | (simp only [normV, normList, normMap, Tok.cells]; rfl) | rfl)) rfl ?_ | refine al_step (st_store rfl rfl (ev_row rfl) nofun (by first | (simp only [normV, normList, normMap, Tok.cells]; rfl) | rfl) (by simp [V.one, Value.oneCell', Tok.cells]) (.inl ⟨rfl, rfl⟩) rfl (le_ok rfl) (by first | (simp only [normV, normList, normMap, Tok.cells]; rfl) | rfl)) rfl ?_ | refine al_step (st_store rfl rfl (ev_box rfl) nofun (by first | (simp only [normV, normList, normMap, Tok.cells]; rfl) | rfl) (by simp [V.one, Value.oneCell', Tok.cells]) (.inl ⟨rfl, rfl⟩) rfl (le_ok rfl) (by first | (simp only [normV, normList, normMap, Tok.cells]; rfl) | rfl)) rfl ?_) | (apply at_op (.build _ _); first | refine al_y (y_build rfl (by repeat (first | exact PartsD.nil | (apply PartsD.cons; first | exact ToD.d _ | exact ToD.row _ _ _ _ _ rfl))) (by first | (simp only [dfill, normV, normList, normMap, Tok.cells]; rfl) | (simp [dfill, putD, cellsD, zerosD, Value.cells, Tok.cells]; rfl))) (lt_ok rfl) ?_ | refine al_y (y_buildA rfl (by repeat (first | exact PartsV.nil _ | (apply PartsV.cons; constructor; rfl))) (by rfl) (by rfl)) (lt_ok rfl) ?_ | refine al_y (y_buildV rfl (by repeat (first | exact PartsV.nil _ | (apply PartsV.cons; constructor; rfl))) (by rfl)) (lt_ok rfl) ?_) | (apply at_op (.buildSlice _ _ _); first | refine al_step (st_lit1 rfl (by first | exact ToD.d _ | exact ToD.row _ _ _ _ _ rfl) (by first | (simp only [normV, normList, normMap, Tok.cells]; rfl) | rfl) rfl (le_ok rfl) (lt_ok rfl)) rfl ?_ | refine al_step (st_lit rfl (by repeat (first | exact PartsD.nil | (apply PartsD.cons; first | exact ToD.d _ | exact ToD.row _ _ _ _ _ rfl))) (by simp [dfill, putD, cellsD, zerosD, Value.cells, Tok.cells]; rfl) (by first | (simp only [normV, normList, normMap, Tok.cells]; rfl) | rfl) (by decide) (by decide) (lt_ok rfl)) rfl ?_) | (apply at_op (.call { callee := .builtin .append, args := _, argTypes := _ }); refine al_step (st_append rfl rfl (by first | exact ToD.d _ | exact ToD.row _ _ _ _ _ rfl) rfl rfl (by simp [D.one, Value.oneCell', Tok.cells]) (by decide) (by first | (simp only [List.length_map, List.length_append, List.length_cons, List.length_nil]; omega) | omega) (by first | (simp only [List.length_map, List.length_append, List.length_cons, List.length_nil]; omega) | omega) (lt_ok rfl)) rfl ?_))
  refine ret_three (by rfl) (by first | exact ToD.d _ | exact ToD.row _ _ _ _ _ rfl) (by first | exact ToD.d _ | exact ToD.row _ _ _ _ _ rfl) (by first | exact ToD.d _ | exact ToD.row _ _ _ _ _ rfl) ?_
  rw [hlx, lexF, if_pos hend]
  simp [lexD, endTok, Tok.cells]
  omega
 ·have e1 := decide_eq_false (show ¬ (p : Int) + (pre isBlank (s.extract p s.size) : Nat) = s.size by omega)
  have hz2 : (s.extract (p + pre isBlank (s.extract p s.size)) s.size).size = s.size - (p + pre isBlank (s.extract p s.size)) := by simp
  rcases hT : nextV (s.extract (p + pre isBlank (s.extract p s.size)) s.size) with ⟨t, e⟩
  have hV : tokenV s (skip s p) = (if e = 0 then ({ t with p := skip s p }, 0) else (Tok.zero, e)) := by rw [nextV_of, hskd, hT]
  by_cases he : e = 0
  ·subst he
   rw [if_pos rfl] at hV
   have hsz := tokenV_size (s := s) (p := skip s p) (by omega) (by rw [hV])
   rw [hV] at hsz
   simp only at hsz
   repeat' (first | (apply at_call; refine k_call (span_any (s.extract p s.size) 76 isBlank (by omega) blank_any) hE ?_; rintro _ rfl) | (apply at_call; refine k_call (next_any (s.extract (p + pre isBlank (s.extract p s.size)) s.size) (by omega) (by omega)) hE ?_; rw [hT]; rintro _ rfl) | refine nx ?_ | (apply aq_block_y; decide) | (apply qr_move; refine r_move ?_) | (apply qr_assign; refine r_assign ?_) | (apply at_cond; first | refine c_t ?_ | refine c_f ?_ | (refine aw_cond rfl (fun hb => ?_) (fun hb => ?_) <;> ((try have hq := dX hb); (try (exfalso; omega))))) | (apply qr_gtr; refine r_gtr ?_) | (apply qr_eql; refine r_eql ?_) | (apply qr_neq; refine r_neq ?_) | (apply qr_add; refine r_add ?_) | (apply qr_len; refine r_len ?_) | (apply qr_extract; refine r_extract ?_) | (apply qr_slice; refine r_slice ?_) | (apply at_op (.load _ _); first | refine al_y (y_load1 rfl rfl rfl) (lt_ok rfl) ?_ | refine al_y (y_loadA rfl rfl (take_all rfl rfl) rfl) (lt_ok rfl) ?_ | refine al_y (y_loadA rfl rfl rfl rfl) (lt_ok rfl) ?_ | refine al_y (y_bload1 rfl rfl rfl rfl) (lt_ok rfl) ?_ | refine al_y (y_bloadA rfl rfl rfl (by first | (simp only [normV, normList, normMap, Tok.cells]; rfl) | rfl) rfl) (lt_ok rfl) ?_ | refine al_y (y_glob hE (by unfold laidG; first | exact List.Mem.head _ | exact .tail _ (.head _) | exact .tail _ (.tail _ (.head _))) rfl rfl) (lt_ok rfl) ?_) | (apply qr_faddr; refine r_faddr ?_) | (apply at_op (.alloc _); refine al_step (st_alloc rfl (by first | (simp only [normV, normList, normMap, Tok.cells]; rfl) | rfl) rfl (lt_ok rfl) rfl) rfl ?_) | (apply at_op (.store _ _ _); first | refine al_step (st_store rfl rfl (ev_d rfl) nofun (by first | (simp only [normV, normList, normMap, Tok.cells]; rfl) | rfl) (by simp [V.one, Value.oneCell', Tok.cells]) (.inl ⟨rfl, rfl⟩) rfl (le_ok rfl) (by first | (simp only [normV, normList, normMap, Tok.cells]; rfl) | rfl)) rfl ?_ | refine al_step (st_store rfl rfl (ev_d rfl) nofun (by first | (simp only [normV, normList, normMap, Tok.cells]; rfl) | rfl) (by simp [V.one, Value.oneCell', Tok.cells]) (.inr rfl) rfl (le_ok rfl) (by first | (simp only [normV, normList, normMap, Tok.cells]; rfl) | rfl)) rfl ?_ | refine al_step (st_store rfl rfl (ev_row rfl) nofun (by first | (simp only [normV, normList, normMap, Tok.cells]; rfl) | rfl) (by simp [V.one, Value.oneCell', Tok.cells]) (.inl ⟨rfl, rfl⟩) rfl (le_ok rfl) (by first | (simp only [normV, normList, normMap, Tok.cells]; rfl) | rfl)) rfl ?_ | refine al_step (st_store rfl rfl (ev_box rfl) nofun (by first | (simp only [normV, normList, normMap, Tok.cells]; rfl) | rfl) (by simp [V.one, Value.oneCell', Tok.cells]) (.inl ⟨rfl, rfl⟩) rfl (le_ok rfl) (by first | (simp only [normV, normList, normMap, Tok.cells]; rfl) | rfl)) rfl ?_) | (apply at_op (.build _ _); first | refine al_y (y_build rfl (by repeat (first | exact PartsD.nil | (apply PartsD.cons; first | exact ToD.d _ | exact ToD.row _ _ _ _ _ rfl))) (by first | (simp only [dfill, normV, normList, normMap, Tok.cells]; rfl) | (simp [dfill, putD, cellsD, zerosD, Value.cells, Tok.cells]; rfl))) (lt_ok rfl) ?_ | refine al_y (y_buildA rfl (by repeat (first | exact PartsV.nil _ | (apply PartsV.cons; constructor; rfl))) (by rfl) (by rfl)) (lt_ok rfl) ?_ | refine al_y (y_buildV rfl (by repeat (first | exact PartsV.nil _ | (apply PartsV.cons; constructor; rfl))) (by rfl)) (lt_ok rfl) ?_) | (apply at_op (.buildSlice _ _ _); first | refine al_step (st_lit1 rfl (by first | exact ToD.d _ | exact ToD.row _ _ _ _ _ rfl) (by first | (simp only [normV, normList, normMap, Tok.cells]; rfl) | rfl) rfl (le_ok rfl) (lt_ok rfl)) rfl ?_ | refine al_step (st_lit rfl (by repeat (first | exact PartsD.nil | (apply PartsD.cons; first | exact ToD.d _ | exact ToD.row _ _ _ _ _ rfl))) (by simp [dfill, putD, cellsD, zerosD, Value.cells, Tok.cells]; rfl) (by first | (simp only [normV, normList, normMap, Tok.cells]; rfl) | rfl) (by decide) (by decide) (lt_ok rfl)) rfl ?_) | (apply at_op (.call { callee := .builtin .append, args := _, argTypes := _ }); refine al_step (st_append rfl rfl (by first | exact ToD.d _ | exact ToD.row _ _ _ _ _ rfl) rfl rfl (by simp [D.one, Value.oneCell', Tok.cells]) (by decide) (by first | (simp only [List.length_map, List.length_append, List.length_cons, List.length_nil]; omega) | omega) (by first | (simp only [List.length_map, List.length_append, List.length_cons, List.length_nil]; omega) | omega) (lt_ok rfl)) rfl ?_))
   have hsk2 : (skip s p : Int) = p + (pre isBlank (s.extract p s.size) : Nat) := by omega
   rw [hsk2] at hV
   refine aq_round _ _ _ (⟨skip s p + t.s.size, k + 1, toks ++ [⟨t.k, t.s, t.n, p + (pre isBlank (s.extract p s.size) : Nat)⟩], rfl, by omega, by simp; omega, hlx.trans (lexF_next hp hend hV), rfl, rfl⟩) (by omega) ?_ ?_
   ·(repeat (first | exact sub_nil | (apply sub_cons; focus (first | rfl | exact vint (by first | omega | (simp only [Tok.cells]; omega)) | (simp [look, Tok.cells]; done)))))
   ·(repeat (first | exact obs_nil | (apply obs_cons; focus (first | rfl | (simp [find, Tok.cells]; done)))))
  ·rw [if_neg he] at hV
   have e2 := decide_eq_false he
   have e3 : (!decide (e = 0)) = true := by simp [e2]
   repeat' (first | (apply at_call; refine k_call (span_any (s.extract p s.size) 76 isBlank (by omega) blank_any) hE ?_; rintro _ rfl) | (apply at_call; refine k_call (next_any (s.extract (p + pre isBlank (s.extract p s.size)) s.size) (by omega) (by omega)) hE ?_; rw [hT]; rintro _ rfl) | refine nx ?_ | (apply aq_block_y; decide) | (apply qr_move; refine r_move ?_) | (apply qr_assign; refine r_assign ?_) | (apply at_cond; first | refine c_t ?_ | refine c_f ?_ | (refine aw_cond rfl (fun hb => ?_) (fun hb => ?_) <;> ((try have hq := dX hb); (try (exfalso; omega))))) | (apply qr_gtr; refine r_gtr ?_) | (apply qr_eql; refine r_eql ?_) | (apply qr_neq; refine r_neq ?_) | (apply qr_add; refine r_add ?_) | (apply qr_len; refine r_len ?_) | (apply qr_extract; refine r_extract ?_) | (apply qr_slice; refine r_slice ?_) | (apply at_op (.load _ _); first | refine al_y (y_load1 rfl rfl rfl) (lt_ok rfl) ?_ | refine al_y (y_loadA rfl rfl (take_all rfl rfl) rfl) (lt_ok rfl) ?_ | refine al_y (y_loadA rfl rfl rfl rfl) (lt_ok rfl) ?_ | refine al_y (y_bload1 rfl rfl rfl rfl) (lt_ok rfl) ?_ | refine al_y (y_bloadA rfl rfl rfl (by first | (simp only [normV, normList, normMap, Tok.cells]; rfl) | rfl) rfl) (lt_ok rfl) ?_ | refine al_y (y_glob hE (by unfold laidG; first | exact List.Mem.head _ | exact .tail _ (.head _) | exact .tail _ (.tail _ (.head _))) rfl rfl) (lt_ok rfl) ?_) | (apply qr_faddr; refine r_faddr ?_) | (apply at_op (.alloc _); refine al_step (st_alloc rfl (by first | (simp only [normV, normList, normMap, Tok.cells]; rfl) | rfl) rfl (lt_ok rfl) rfl) rfl ?_) | (apply at_op (.store _ _ _); first | refine al_step (st_store rfl rfl (ev_d rfl) nofun (by first | (simp only [normV, normList, normMap, Tok.cells]; rfl) | rfl) (by simp [V.one, Value.oneCell', Tok.cells]) (.inl ⟨rfl, rfl⟩) rfl (le_ok rfl) (by first | (simp only [normV, normList, normMap, Tok.cells]; rfl) | rfl)) rfl ?_ | refine al_step (st_store rfl rfl (ev_d rfl) nofun (by first | (simp only [normV, normList, normMap, Tok.cells]; rfl) | rfl) (by simp [V.one, Value.oneCell', Tok.cells]) (.inr rfl) rfl (le_ok rfl) (by first | (simp only [normV, normList, normMap, Tok.cells]; rfl) | rfl)) rfl ?_ | refine al_step (st_store rfl rfl (ev_row rfl) nofun (by first | (simp only [normV, normList, normMap, Tok.cells]; rfl) | rfl) (by simp [V.one, Value.oneCell', Tok.cells]) (.inl ⟨rfl, rfl⟩) rfl (le_ok rfl) (by first | (simp only [normV, normList, normMap, Tok.cells]; rfl) | rfl)) rfl ?_ | refine al_step (st_store rfl rfl (ev_box rfl) nofun (by first | (simp only [normV, normList, normMap, Tok.cells]; rfl) | rfl) (by simp [V.one, Value.oneCell', Tok.cells]) (.inl ⟨rfl, rfl⟩) rfl (le_ok rfl) (by first | (simp only [normV, normList, normMap, Tok.cells]; rfl) | rfl)) rfl ?_) | (apply at_op (.build _ _); first | refine al_y (y_build rfl (by repeat (first | exact PartsD.nil | (apply PartsD.cons; first | exact ToD.d _ | exact ToD.row _ _ _ _ _ rfl))) (by first | (simp only [dfill, normV, normList, normMap, Tok.cells]; rfl) | (simp [dfill, putD, cellsD, zerosD, Value.cells, Tok.cells]; rfl))) (lt_ok rfl) ?_ | refine al_y (y_buildA rfl (by repeat (first | exact PartsV.nil _ | (apply PartsV.cons; constructor; rfl))) (by rfl) (by rfl)) (lt_ok rfl) ?_ | refine al_y (y_buildV rfl (by repeat (first | exact PartsV.nil _ | (apply PartsV.cons; constructor; rfl))) (by rfl)) (lt_ok rfl) ?_) | (apply at_op (.buildSlice _ _ _); first | refine al_step (st_lit1 rfl (by first | exact ToD.d _ | exact ToD.row _ _ _ _ _ rfl) (by first | (simp only [normV, normList, normMap, Tok.cells]; rfl) | rfl) rfl (le_ok rfl) (lt_ok rfl)) rfl ?_ | refine al_step (st_lit rfl (by repeat (first | exact PartsD.nil | (apply PartsD.cons; first | exact ToD.d _ | exact ToD.row _ _ _ _ _ rfl))) (by simp [dfill, putD, cellsD, zerosD, Value.cells, Tok.cells]; rfl) (by first | (simp only [normV, normList, normMap, Tok.cells]; rfl) | rfl) (by decide) (by decide) (lt_ok rfl)) rfl ?_) | (apply at_op (.call { callee := .builtin .append, args := _, argTypes := _ }); refine al_step (st_append rfl rfl (by first | exact ToD.d _ | exact ToD.row _ _ _ _ _ rfl) rfl rfl (by simp [D.one, Value.oneCell', Tok.cells]) (by decide) (by first | (simp only [List.length_map, List.length_append, List.length_cons, List.length_nil]; omega) | omega) (by first | (simp only [List.length_map, List.length_append, List.length_cons, List.length_nil]; omega) | omega) (lt_ok rfl)) rfl ?_))
   refine ret_three (by rfl) (ToD.nil 4) (ToD.d _) (ToD.d _) ?_
   rw [hlx, lexF_err hend hV he, hskd]
   rfl
end Go.Proofs.YtedoeogopmenpaaGreatDoor
end
section
set_option linter.unusedSimpArgs false
set_option linter.unusedVariables false
namespace Go.Proofs.YtedoeogopmenpaaGreatDoor
open Go.RowKit
abbrev tokC (t : Tok) : List D := [.int t.k, .str t.s, .int t.n, .int t.p]
abbrev strsD (l : List ByteArray) : D := .list 1 (l.map fun s => [D.str s])
abbrev stopV (p e : Int) : Value := .iface 103 (.agg #[.int .i64 p, .int .i64 e])
def Out {α : Type} (R : Rd α) (val : α → V) (st : List Tok → Objs) : V → Objs → Prop := fun x o => ∃ a t, R = .ok a t ∧ x = val a ∧ o = st t
def Bads {α : Type} (R : Rd α) : Value → Prop := fun v => ∃ p e, R = .bad p e ∧ v = stopV p e
section
variable {α : Type} {f : FuncId} {args : List V} {ob : Objs} {new : List Nat} {R : Rd α} {val : α → V} {st : List Tok → Objs} {a : α} {t : List Tok} {p e : Int}
theorem out_ok (h : ObP f args ob new (Out R val st) (Bads R)) (hR : R = .ok a t) : ObC f args ob new (fun x o => x = val a ∧ o = st t) := by
 subst hR
 refine (h.ob fun v => ?_).mono fun x o => ?_
 ·rintro ⟨_, _, h, _⟩
  cases h
 ·rintro ⟨_, _, h, h1, h2⟩
  cases h
  exact ⟨h1, h2⟩
theorem out_bad (h : ObP f args ob new (Out R val st) (Bads R)) (hR : R = .bad p e) : ObP f args ob new (fun _ _ => False) (fun v => v = stopV p e) := by
 subst hR
 refine h.mono (fun x o => ?_) (fun v => ?_)
 ·rintro ⟨_, _, h, _⟩
  cases h
 ·rintro ⟨_, _, h, h1⟩
  cases h
  exact h1
theorem ok_out (h : ObC f args ob new (fun x o => x = val a ∧ o = st t)) (hR : R = .ok a t) : ObP f args ob new (Out R val st) (Bads R) := (h.mono fun _ _ ⟨h1, h2⟩ => ⟨a, t, hR, h1, h2⟩).pan
theorem bad_out (h : ObP f args ob new (fun _ _ => False) (fun v => v = stopV p e)) (hR : R = .bad p e) : ObP f args ob new (Out R val st) (Bads R) := h.mono (fun _ _ h => h.elim) (fun _ h => ⟨p, e, hR, h⟩)
end
def atN (L l : List Tok) : Nat := L.length - l.length
abbrev psB (L : List Tok) (k : Int) : O := .box 101 [.d (.list 4 (L.map Tok.cells)), .d (.int k)]
abbrev psr (L l : List Tok) : Objs := [(1000, psB L (atN L l))]
structure Rdy (L l : List Tok) : Prop where
 suf : Suf L l
 ends : Ends L
 len : L.length ≤ 100000
section
variable {L l t : List Tok}
theorem Rdy.to (h : Rdy L l) (k : Suf l t) : Rdy L t := ⟨h.suf.trans k, h.ends, h.len⟩
theorem Rdy.e (h : Rdy L l) : Ends l := h.ends.suf h.suf
theorem Rdy.at (h : Rdy L l) : atN L l < L.length ∧ L[atN L l]? = some (nxt l) := by
 have h1 := h.e.pos
 obtain ⟨m, h2, _⟩ := h.suf
 have h3 : atN L l = m.length := by rw [atN, h2]; simp
 have h4 : L.length = m.length + l.length := by rw [h2]; simp
 refine ⟨by omega, ?_⟩
 rw [h3, h2, List.getElem?_append_right (Nat.le_refl _), Nat.sub_self]
 cases l with
 | nil => simp at h1
 | cons x r => rfl
theorem Rdy.get (h : Rdy L l) : (L.map Tok.cells)[atN L l]? = some (tokC (nxt l)) := by
 rw [List.getElem?_map, h.at.2]
 rfl
theorem Rdy.step (h : Rdy L l) : ((atN L l : Nat) : Int) + 1 = (atN L (l.drop 1) : Nat) := by
 have h1 := h.e.pos
 have h2 := suf_less h.suf
 unfold atN
 rw [List.length_drop]
 omega
theorem Rdy.le (h : Rdy L l) : atN L l ≤ 100000 := by
 have := h.len
 unfold atN
 omega
end
theorem pnext {L l : List Tok} (h : Rdy L l) : ObC 44 [.box 1000 0] (psr L l) [] (fun x o => x = .d (.agg (tokC (nxt l))) ∧ o = psr L l) := by
 have hget := h.get
 have hlt := h.at.1
 refine ob_enter Tryz.func44 rfl (by decide) _ Tryz.ntmps44 (le_ok rfl) rfl (fun w Pr β κ hE => ?_)
 dsimp only [slotsV, Nat.zero_add, Nat.reduceAdd]
 repeat' (first | refine nx ?_ | (apply qr_move; refine r_move ?_) | (apply qr_ix; refine r_ix ?_) | (apply qr_load; refine r_load ?_) | (apply qr_faddr; refine r_faddr ?_) | (apply qr_nilck; refine r_nilck ?_) | (apply qr_alloc; refine r_alloc ?_) | (apply qr_store; refine r_store ?_))
 refine aw_mixo (psr L l) [(0, true), (1, true), (2, true), (3, true), (4, true), (5, true), (6, true), (7, true), (8, true), (9, true)] [10] (by kernel_rfl) (by kernel_rfl) (by kernel_rfl) (by decide) (by (repeat (first | exact obs_nil | (apply obs_cons; focus (first | rfl | (simp [find]; done)))))) ?_
 simp only [planned, tailed, List.filterMap_cons, List.filterMap_nil, List.getElem?_cons_zero, List.getElem?_cons_succ, Option.map_some]
 repeat' (first | apply am_nil | refine m_skip ?_ | refine n_skip ?_ | (apply at_am (.indexAddr _ _ _); refine am_y (by first | exact want_none | exact want_yes rfl rfl (by assumption) | exact want_yes rfl rfl (by with_reducible rfl)) (y_ix (by first | exact ToD.d _ | exact ToD.row _ _ _ _ _ rfl) rfl rfl (by first | with_reducible rfl | exact lit0 | exact lit1 | exact lit2 | exact lit3 | exact lit4 | exact int_s _ | exact int_p _ _ | exact int_nat _ (by omega)) hget) (lt_ok rfl) ?_) | (apply qm_move; refine m_move ?_) | (apply qm_ix; refine m_ix ?_) | (apply qm_load; refine m_load ?_) | (apply qm_faddr; refine m_faddr ?_) | (apply qm_nilck; refine m_nilck ?_) | (refine am_split rfl rfl (fun hb => ?_) (fun hb => ?_) <;> ((try have hq := dX hb); (try (exfalso; omega)))))
 repeat' (first | refine nx ?_ | (apply qr_move; refine r_move ?_) | (apply qr_ix; refine r_ix ?_) | (apply qr_load; refine r_load ?_) | (apply qr_faddr; refine r_faddr ?_) | (apply qr_nilck; refine r_nilck ?_) | (apply qr_alloc; refine r_alloc ?_) | (apply qr_store; refine r_store ?_))
 refine oret1 (psr L l) (by rfl) rv (⟨rfl, rfl⟩) sb okx
theorem pis {L l : List Tok} (h : Rdy L l) (s : ByteArray) : ObC 95 [.box 1000 0, .d (.str s)] (psr L l) [] (fun x o => x = .d (.bool (isT l s)) ∧ o = psr L l) := by
 by_cases hk : (nxt l).k = 3
 ·have q1 : (!decide ((nxt l).k = 3)) = false := by simp [hk]
  have hT : isT l s = false := by simp [isT, hk]
  rw [hT]
  refine ob_enter Tryz.func95 rfl (by decide) _ Tryz.ntmps95 (le_ok rfl) rfl (fun w Pr β κ hE => ?_)
  dsimp only [slotsV, Nat.zero_add, Nat.reduceAdd]
  repeat' (first | (apply at_call; refine k_ocall [(1000, 1000)] (pnext h) hE ?_; rintro _ _ ⟨rfl, rfl⟩ <;> (intro _ _ h1 h2; simp only [renEqs, Nat.reduceBEq, renL_app, renL_ds, renL_und] at h1 h2; subst h1 h2)) | refine nx ?_ | (apply qr_move; refine r_move ?_) | (apply qr_assign; refine r_assign ?_) | (apply at_guard; first | refine g_go ?_ | refine g_nt ?_ | refine g_nf ?_ | refine g_nu ?_ | ((first | refine al_split_t rfl rfl (lt_ok rfl) (fun hb => ?_) (fun hb => ?_) | refine al_split_f rfl rfl (lt_ok rfl) (fun hb => ?_) (fun hb => ?_)) <;> ((try have hq := dX hb); (try (exfalso; omega))))) | (apply qr_pick; refine r_pick ?_) | (apply qr_eql; refine r_eql ?_) | (apply qr_neq; refine r_neq ?_) | (apply qr_field; refine r_field ?_))
  refine oret1 (psr L l) (by rfl) rv (⟨rfl, rfl⟩) sb okx
 ·have q1 : (!decide ((nxt l).k = 3)) = true := by simp [hk]
  have hT : isT l s = decide ((nxt l).s = s) := by simp [isT, hk]
  rw [hT]
  refine ob_enter Tryz.func95 rfl (by decide) _ Tryz.ntmps95 (le_ok rfl) rfl (fun w Pr β κ hE => ?_)
  dsimp only [slotsV, Nat.zero_add, Nat.reduceAdd]
  repeat' (first | (apply at_call; refine k_ocall [(1000, 1000)] (pnext h) hE ?_; rintro _ _ ⟨rfl, rfl⟩ <;> (intro _ _ h1 h2; simp only [renEqs, Nat.reduceBEq, renL_app, renL_ds, renL_und] at h1 h2; subst h1 h2)) | refine nx ?_ | (apply qr_move; refine r_move ?_) | (apply qr_assign; refine r_assign ?_) | (apply at_guard; first | refine g_go ?_ | refine g_nt ?_ | refine g_nf ?_ | refine g_nu ?_ | ((first | refine al_split_t rfl rfl (lt_ok rfl) (fun hb => ?_) (fun hb => ?_) | refine al_split_f rfl rfl (lt_ok rfl) (fun hb => ?_) (fun hb => ?_)) <;> ((try have hq := dX hb); (try (exfalso; omega))))) | (apply qr_pick; refine r_pick ?_) | (apply qr_eql; refine r_eql ?_) | (apply qr_neq; refine r_neq ?_) | (apply qr_field; refine r_field ?_))
  refine oret1 (psr L l) (by rfl) rv (⟨rfl, rfl⟩) sb okx
theorem phas_y {L l : List Tok} (h : Rdy L l) (s : ByteArray) (hT : isT l s = true) : ObC 124 [.box 1000 0, .d (.str s)] (psr L l) [] (fun x o => x = .d (.bool true) ∧ o = psr L (l.drop 1)) := by
 have q1 : (!isT l s) = false := by simp [hT]
 have hle := h.le
 refine ob_enter Tryz.func124 rfl (by decide) _ Tryz.ntmps124 (le_ok rfl) rfl (fun w Pr β κ hE => ?_)
 dsimp only [slotsV, Nat.zero_add, Nat.reduceAdd]
 repeat' (first | (apply at_call; refine k_ocall [(1000, 1000)] (pis h s) hE ?_; rintro _ _ ⟨rfl, rfl⟩ <;> (intro _ _ h1 h2; simp only [renEqs, Nat.reduceBEq, renL_app, renL_ds, renL_und] at h1 h2; subst h1 h2)) | refine nx ?_ | (apply qr_move; refine r_move ?_) | (apply qr_assign; refine r_assign ?_) | (apply at_cond; first | refine c_t ?_ | refine c_f ?_ | (refine aw_cond rfl (fun hb => ?_) (fun hb => ?_) <;> ((try have hq := dX hb); (try (exfalso; omega))))) | (apply qr_add; refine r_add ?_) | (apply qr_not; refine r_not ?_) | (apply qr_load; refine r_load ?_) | (apply qr_faddr; refine r_faddr ?_) | (apply qr_nilck; refine r_nilck ?_) | (apply qr_store; refine r_store ?_))
 rw [h.step]
 refine oret1 (psr L (l.drop 1)) (by rfl) rv (⟨rfl, rfl⟩) sb okx
theorem phas_n {L l : List Tok} (h : Rdy L l) (s : ByteArray) (hT : isT l s = false) : ObC 124 [.box 1000 0, .d (.str s)] (psr L l) [] (fun x o => x = .d (.bool false) ∧ o = psr L l) := by
 have q1 : (!isT l s) = true := by simp [hT]
 refine ob_enter Tryz.func124 rfl (by decide) _ Tryz.ntmps124 (le_ok rfl) rfl (fun w Pr β κ hE => ?_)
 dsimp only [slotsV, Nat.zero_add, Nat.reduceAdd]
 repeat' (first | (apply at_call; refine k_ocall [(1000, 1000)] (pis h s) hE ?_; rintro _ _ ⟨rfl, rfl⟩ <;> (intro _ _ h1 h2; simp only [renEqs, Nat.reduceBEq, renL_app, renL_ds, renL_und] at h1 h2; subst h1 h2)) | refine nx ?_ | (apply qr_move; refine r_move ?_) | (apply qr_assign; refine r_assign ?_) | (apply at_cond; first | refine c_t ?_ | refine c_f ?_ | (refine aw_cond rfl (fun hb => ?_) (fun hb => ?_) <;> ((try have hq := dX hb); (try (exfalso; omega))))) | (apply qr_add; refine r_add ?_) | (apply qr_not; refine r_not ?_) | (apply qr_load; refine r_load ?_) | (apply qr_faddr; refine r_faddr ?_) | (apply qr_nilck; refine r_nilck ?_) | (apply qr_store; refine r_store ?_))
 refine oret1 (psr L l) (by rfl) rv (⟨rfl, rfl⟩) sb okx
theorem pcheck_y {L l : List Tok} (e : Int) : ObC 43 [.box 1000 0, .d (.bool true), .d (.int e)] (psr L l) [] (fun x o => x = .tup [] ∧ o = psr L l) := by
 refine ob_enter Tryz.func43 rfl (by decide) _ Tryz.ntmps43 (le_ok rfl) rfl (fun w Pr β κ hE => ?_)
 dsimp only [slotsV, Nat.zero_add, Nat.reduceAdd]
 repeat' (first | refine nx ?_ | (apply qr_move; refine r_move ?_) | (apply at_cond; first | refine c_t ?_ | refine c_f ?_ | (refine aw_cond rfl (fun hb => ?_) (fun hb => ?_) <;> ((try have hq := dX hb); (try (exfalso; omega))))) | (apply qr_not; refine r_not ?_) | (apply qr_field; refine r_field ?_) | (apply qr_build; refine r_build ?_))
 try refine aq_end ?_
 refine oret0 (psr L l) (by rfl) (⟨rfl, rfl⟩) sb okx
theorem stop_vals (p e : Int) : (Value.iface 103 (.agg (valsD [D.int p, D.int e]).toArray)) = stopV p e := rfl
theorem pcheck_n {L l : List Tok} (h : Rdy L l) (e : Int) : ObP 43 [.box 1000 0, .d (.bool false), .d (.int e)] (psr L l) [] (fun _ _ => False) (fun v => v = stopV (nxt l).p e) := by
 refine obp_enter Tryz.func43 rfl (by decide) _ Tryz.ntmps43 (le_ok rfl) rfl (fun w Pr β κ hE => ?_)
 dsimp only [slotsV, Nat.zero_add, Nat.reduceAdd]
 repeat' (first | (apply at_call; refine k_ocall [(1000, 1000)] (pnext h) hE ?_; rintro _ _ ⟨rfl, rfl⟩ <;> (intro _ _ h1 h2; simp only [renEqs, Nat.reduceBEq, renL_app, renL_ds, renL_und] at h1 h2; subst h1 h2)) | (apply at_op (.makeInterface _ _); refine al_y (y_iface rfl rfl Tryz.underlying103 rfl (stop_vals _ _)) (lt_ok rfl) ?_) | (apply at_op (.panic _); refine al_panic (u := .tmp 0) rfl ?_) | refine nx ?_ | apply aq_pq | (apply qr_move; refine r_move ?_) | (apply at_cond; first | refine c_t ?_ | refine c_f ?_ | (refine aw_cond rfl (fun hb => ?_) (fun hb => ?_) <;> ((try have hq := dX hb); (try (exfalso; omega))))) | (apply qr_not; refine r_not ?_) | (apply qr_field; refine r_field ?_) | (apply qr_build; refine r_build ?_))
 refine aq_ap ?_
 repeat (first | with_reducible refine ap_block ?_ | with_reducible refine ap_then ?_)
 exact ap_body rfl
theorem pwant {L l : List Tok} (h : Rdy L l) (s : ByteArray) : ObP 78 [.box 1000 0, .d (.list 1 [[.str s]])] (psr L l) [] (Out (want l s) (fun _ => .tup []) (psr L)) (Bads (want l s)) := by
 cases hT : isT l s
 ·refine bad_out (p := (nxt l).p) (e := 12) ?_ (by simp [want, hT])
  refine obp_enter Tryz.func78 rfl (by decide) _ Tryz.ntmps78 (le_ok rfl) rfl (fun w Pr β κ hE => ?_)
  dsimp only [slotsV, Nat.zero_add, Nat.reduceAdd]
  repeat' (first | refine nx ?_ | apply aq_pq | (apply aq_block_y; decide) | (apply qr_move; refine r_move ?_) | (apply qr_assign; refine r_assign ?_) | (apply at_cond; first | refine c_t ?_ | refine c_f ?_ | (refine aw_cond rfl (fun hb => ?_) (fun hb => ?_) <;> ((try have hq := dX hb); (try (exfalso; omega))))) | (apply qr_lss; refine r_lss ?_) | (apply qr_add; refine r_add ?_) | (apply qr_len; refine r_len ?_) | (apply qr_ix; refine r_ix ?_) | (apply qr_load; refine r_load ?_))
  refine aw_lp (fun N sl ob => N = 0 ∧ sl = [(8, .d (.int 0)), (7, .d (.int 1)), (6, .d (.list 1 [[.str s]])), (0, .box 1000 0)] ∧ ob = psr L l) (⟨rfl, rfl, rfl⟩) ?_
  rintro N sl ob ⟨rfl, rfl, rfl⟩
  repeat' (first | (apply at_call; refine k_ocall [(1000, 1000)] (phas_n h s hT) hE ?_; rintro _ _ ⟨rfl, rfl⟩ <;> (intro _ _ h1 h2; simp only [renEqs, Nat.reduceBEq, renL_app, renL_ds, renL_und] at h1 h2; subst h1 h2)) | (apply at_call; refine k_pcall [(1000, 1000)] (pcheck_n h 12) hE (fun v hv => by subst hv; (repeat (first | with_reducible refine ap_block ?_ | with_reducible refine ap_then ?_)); first | exact ap_body ⟨_, _, hR, rfl⟩ | exact ap_body ⟨_, _, rfl, rfl⟩ | exact ap_body rfl) (fun _ _ h => h.elim)) | refine nx ?_ | apply aq_pq | (apply aq_block_y; decide) | (apply qr_move; refine r_move ?_) | (apply qr_assign; refine r_assign ?_) | (apply at_cond; first | refine c_t ?_ | refine c_f ?_ | (refine aw_cond rfl (fun hb => ?_) (fun hb => ?_) <;> ((try have hq := dX hb); (try (exfalso; omega))))) | (apply qr_lss; refine r_lss ?_) | (apply qr_add; refine r_add ?_) | (apply qr_len; refine r_len ?_) | (apply qr_ix; refine r_ix ?_) | (apply qr_load; refine r_load ?_))
 ·refine ok_out (a := ()) (t := l.drop 1) ?_ (by simp [want, hT])
  have h' := h.to (suf_is hT)
  refine ob_enter Tryz.func78 rfl (by decide) _ Tryz.ntmps78 (le_ok rfl) rfl (fun w Pr β κ hE => ?_)
  dsimp only [slotsV, Nat.zero_add, Nat.reduceAdd]
  repeat' (first | refine nx ?_ | apply aq_pq | (apply aq_block_y; decide) | (apply qr_move; refine r_move ?_) | (apply qr_assign; refine r_assign ?_) | (apply at_cond; first | refine c_t ?_ | refine c_f ?_ | (refine aw_cond rfl (fun hb => ?_) (fun hb => ?_) <;> ((try have hq := dX hb); (try (exfalso; omega))))) | (apply qr_lss; refine r_lss ?_) | (apply qr_add; refine r_add ?_) | (apply qr_len; refine r_len ?_) | (apply qr_ix; refine r_ix ?_) | (apply qr_load; refine r_load ?_))
  refine aw_lp (fun N sl ob => ∃ i : Nat, N = 1 - i ∧ ((i = 0 ∧ ob = psr L l) ∨ (i = 1 ∧ ob = psr L (l.drop 1))) ∧ sl = [(8, .d (.int i)), (7, .d (.int 1)), (6, .d (.list 1 [[.str s]])), (0, .box 1000 0)]) (⟨0, rfl, .inl ⟨rfl, rfl⟩, rfl⟩) ?_
  rintro N sl ob ⟨i, rfl, ⟨rfl, rfl⟩ | ⟨rfl, rfl⟩, rfl⟩
  ·skip
   repeat' (first | (apply at_call; refine k_ocall [(1000, 1000)] (phas_y h s hT) hE ?_; rintro _ _ ⟨rfl, rfl⟩ <;> (intro _ _ h1 h2; simp only [renEqs, Nat.reduceBEq, renL_app, renL_ds, renL_und] at h1 h2; subst h1 h2)) | (apply at_call; refine k_ocall [(1000, 1000)] (pcheck_y 12) hE ?_; rintro _ _ ⟨rfl, rfl⟩ <;> (intro _ _ h1 h2; simp only [renEqs, Nat.reduceBEq, renL_app, renL_ds, renL_und] at h1 h2; subst h1 h2)) | refine nx ?_ | apply aq_pq | (apply aq_block_y; decide) | (apply qr_move; refine r_move ?_) | (apply qr_assign; refine r_assign ?_) | (apply at_cond; first | refine c_t ?_ | refine c_f ?_ | (refine aw_cond rfl (fun hb => ?_) (fun hb => ?_) <;> ((try have hq := dX hb); (try (exfalso; omega))))) | (apply qr_lss; refine r_lss ?_) | (apply qr_add; refine r_add ?_) | (apply qr_len; refine r_len ?_) | (apply qr_ix; refine r_ix ?_) | (apply qr_load; refine r_load ?_))
   refine aq_rd (⟨1, rfl, .inr ⟨rfl, rfl⟩, rfl⟩) (by omega)
  ·skip
   repeat' (first | refine nx ?_ | apply aq_pq | (apply aq_block_y; decide) | (apply qr_move; refine r_move ?_) | (apply qr_assign; refine r_assign ?_) | (apply at_cond; first | refine c_t ?_ | refine c_f ?_ | (refine aw_cond rfl (fun hb => ?_) (fun hb => ?_) <;> ((try have hq := dX hb); (try (exfalso; omega))))) | (apply qr_lss; refine r_lss ?_) | (apply qr_add; refine r_add ?_) | (apply qr_len; refine r_len ?_) | (apply qr_ix; refine r_ix ?_) | (apply qr_load; refine r_load ?_))
   try refine aq_end ?_
   refine oret0 (psr L (l.drop 1)) (by rfl) (⟨rfl, rfl⟩) sb okx
end Go.Proofs.YtedoeogopmenpaaGreatDoor
end
