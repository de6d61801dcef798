/-
  Conditions: none.
-/
import Derived.Test.YtedoeogopmenpaaDoorMax
set_option maxHeartbeats 16000000
set_option maxRecDepth 20000
section
set_option linter.unusedSimpArgs false
set_option linter.unusedVariables false
namespace Go.Proofs.YtedoeogopmenpaaDoor
open Go.RowKit
abbrev nilD : D := .val (.slice none 0 0)
abbrev w_ride : ByteArray := ⟨#[114, 105, 100, 101]⟩
abbrev sumA : List D := [.int 4, .int 0, .int 0, .str ⟨#[]⟩, .list 5 [[.int 2, .int 0, .int 0, .str w_ride, nilD], [.int 0, .int 5, .int 2, .str ⟨#[]⟩, nilD]]]
abbrev mulA : List D := [.int 6, .int 0, .int 0, .str ⟨#[]⟩, .list 5 [[.int 0, .int 3, .int 0, .str ⟨#[]⟩, nilD], sumA]]
theorem sum_wk : WkL sumA (exC e_sum) := wkl_args (wk_two (wkl_args (.nil 5)) (wkl_args (.nil 5)))
theorem mul_wk : WkL mulA (exC e_mul) := wkl_args (wk_two (wkl_args (.nil 5)) sum_wk)
theorem PureC.wk2 {f : FuncId} {x y u v : D} {Post : D → Prop} (h : PureC f [y, v] Post) (hw : Wk x y) (hv : Wk u v) : PureC f [x, u] Post :=
 ⟨h.1, fun w Pr vs h1 h2 h3 h4 => h.2 w Pr vs h1 h2 h3 fun i z d hz hd => by
  match i with
  | 0 => cases hd; exact hw.rep z (h4 0 z x hz rfl)
  | 1 => cases hd; exact hv.rep z (h4 1 z u hz rfl)
  | i + 2 => simp at hd⟩
theorem tame_one : e_one.tame := by
 simp only [e_one, Ex.tame, Ex.tameL]
 repeat' apply And.intro
 all_goals first | trivial | decide
theorem tame_sum : e_sum.tame := by
 simp only [e_sum, Ex.tame, Ex.tameL]
 repeat' apply And.intro
 all_goals first | trivial | decide
theorem tame_mul : e_mul.tame := by
 simp only [e_mul, e_sum, Ex.tame, Ex.tameL]
 repeat' apply And.intro
 all_goals first | trivial | decide
theorem tame_zero : Ex.zero.tame := by
 simp only [Ex.zero, Ex.tame, Ex.tameL]
 repeat' apply And.intro
 all_goals first | trivial | decide
theorem tame_x : x_one.tame := by
 refine ⟨by decide, by decide, fun q hq => ?_, ?_, ?_, ?_, ?_⟩
 ·simp only [x_one, List.mem_singleton] at hq
  subst hq
  refine ⟨by decide, ?_⟩
  simp only [Ex.tame, Ex.tameL]
  repeat' apply And.intro
  all_goals first | trivial | decide
 all_goals
  simp only [x_one, Ex.tame, Ex.tameL]
  repeat' apply And.intro
  all_goals first | trivial | decide
theorem tame_z : By.zero.tame := ⟨by decide, by decide, fun q hq => by simp [By.zero] at hq, tame_zero, tame_zero, tame_zero, tame_zero⟩
abbrev zA : List D := [.str ⟨#[]⟩, nilD, .int 0, .int 0, .int 0, .str ⟨#[]⟩, nilD, .int 0, .int 0, .int 0, .str ⟨#[]⟩, nilD, .int 0, .int 0, .int 0, .str ⟨#[]⟩, nilD, .int 0, .int 0, .int 0, .str ⟨#[]⟩, nilD, .int 0, .int 0, .int 0]
theorem z_wk : WkL zA (byC By.zero) :=
 wk_cons (.same _) (wk_cons (.nil 6) (wk_cons (.same _) (wk_cons (.same _) (wk_cons (.same _) (wk_cons (.same _) (wk_cons (.nil 5) (wk_cons (.same _) (wk_cons (.same _) (wk_cons (.same _) (wk_cons (.same _) (wk_cons (.nil 5) (wk_cons (.same _) (wk_cons (.same _) (wk_cons (.same _) (wk_cons (.same _) (wk_cons (.nil 5) (wk_cons (.same _) (wk_cons (.same _) (wk_cons (.same _) (wk_cons (.same _) (wk_cons (.nil 5) (wk_cons (.same _) (wk_cons (.same _) (wk_cons (.same _) wk_nil))))))))))))))))))))))))
theorem text30_any : PureC 14 [] (· = .str t_text) := by
 refine pure_enter Tryd.func14 rfl (by decide) _ Tryd.ntmps14 (le_ok rfl) (fun w Pr hE => ?_)
 dsimp only [slotsOf, Nat.zero_add, Nat.reduceAdd]
 repeat' (first | refine nx ?_ | (apply qr_assign; refine r_assign ?_))
 refine rt1 ?_
 rfl
theorem print_e {e : Ex} {s : ByteArray} (hr : e.right 12 = true) (hs : e.text 0 = s) (hz : s.size ≤ 4000) : printED e = .tup [.str s, .int 0] := by
 unfold printED fitsD
 rw [if_pos hr, hs, if_neg (by omega)]
theorem small_any : PureC 4 [] (· = .bool true) := by
 have p1 := parseE_any t_one (by decide)
 have p2 := parse_any t_text (by decide)
 have p3 := parse_any t_bad (by decide)
 have p4 := parseE_any t_two (by decide)
 rw [parse_one] at p1
 rw [parse_text] at p2
 rw [parse_bad] at p3
 rw [parse_two] at p4
 have w1 := printE_any e_one tame_one
 rw [print_e right_one print_one (by decide)] at w1
 have w2 := (printE_any e_mul tame_mul).wk (wk_agg mul_wk)
 rw [print_e right_mul print_mul (by decide)] at w2
 have w3 := print_any x_one tame_x
 have hpx : printD x_one = .tup [.str x_one.text, .int 0] := by
  unfold printD fitsD
  rw [if_pos right_x, if_neg (by rw [print_text]; decide)]
 rw [hpx] at w3
 have r1 := byRight_any x_one tame_x
 rw [right_x] at r1
 have r2 := (byRight_any By.zero tame_z).wk (wk_agg z_wk)
 rw [right_z] at r2
 have r3 := (rightExp_any e_sum tame_sum).wk (wk_agg sum_wk)
 rw [right_sum] at r3
 have r4 : PureC 13 [.agg [.int 1, .int 0, .int 0, .str ⟨#[]⟩, nilD]] (· = .bool ((Ex.mk 1 0 0 ⟨#[]⟩ []).right 12)) := (rightExp_any (.mk 1 0 0 ⟨#[]⟩ []) (by simp only [Ex.tame, Ex.tameL]; repeat' apply And.intro; all_goals first | trivial | decide)).wk (wk_agg (wkl_args (.nil 5)))
 rw [right_n] at r4
 have n1 := name_any ⟨#[112, 101, 114, 105, 111, 100]⟩ (by decide)
 rw [name_y] at n1
 have n2 := name_any ⟨#[99, 101, 110, 116, 115]⟩ (by decide)
 rw [name_n] at n2
 have m1 := same_any x_one x_one tame_x tame_x
 rw [(bySame_iff x_one x_one).2 rfl] at m1
 have m2 := (sameE_any e_sum e_sum tame_sum tame_sum).wk2 (wk_agg sum_wk) (wk_agg sum_wk)
 rw [(same_iff e_sum e_sum).2 rfl] at m2
 have hsz : ((x_one.text.size : Nat) : Int) = (t_text.size : Int) + 1 := by rw [print_text]; rfl
 have hq : decide (((x_one.text.size : Nat) : Int) = (t_text.size : Int) + 1) = true := decide_eq_true hsz
 have htt := text30_any
 have htz : t_text.size ≤ 1000 := by decide
 unfold parseED at p1 p4
 unfold parseD at p2 p3
 dsimp only at p1 p2 p3 p4
 generalize x_one = X at *
 generalize e_one = E1 at *
 unfold t_one at p1
 unfold t_bad at p3
 unfold t_two at p4
 generalize t_text = TT at *
 generalize X.text = XT at *
 refine pure_enter Tryd.func4 rfl (by decide) _ Tryd.ntmps4 (le_ok rfl) (fun w Pr hE => ?_)
 dsimp only [slotsOf, Nat.zero_add, Nat.reduceAdd]
 repeat' (first | (apply at_call; refine k_call (p1) hE ?_; rintro _ rfl; clear p1) | (apply at_call; refine k_call (w1) hE ?_; rintro _ rfl; clear w1) | (apply at_call; refine k_call (w2) hE ?_; rintro _ rfl) | (apply at_call; refine k_call (htt) hE ?_; rintro _ rfl) | (apply at_call; refine k_call (p2) hE ?_; rintro _ rfl; clear p2) | (apply at_call; refine k_call (w3) hE ?_; rintro _ rfl) | (apply at_call; refine k_call (p3) hE ?_; rintro _ rfl) | (apply at_call; refine k_call (p4) hE ?_; rintro _ rfl) | (apply at_call; refine k_call (r1) hE ?_; rintro _ rfl; clear r1) | (apply at_call; refine k_call (r2) hE ?_; rintro _ rfl) | (apply at_call; refine k_call (r3) hE ?_; rintro _ rfl; clear r3) | (apply at_call; refine k_call (r4) hE ?_; rintro _ rfl) | (apply at_call; refine k_call (n1) hE ?_; rintro _ rfl; clear n1) | (apply at_call; refine k_call (n2) hE ?_; rintro _ rfl) | (apply at_call; refine k_call (m1) hE ?_; rintro _ rfl) | (apply at_call; refine k_call (m2) hE ?_; rintro _ rfl) | refine nx ?_ | (apply qr_move; refine r_move ?_) | (apply qr_assign; refine r_assign ?_) | (apply at_guard; first | refine g_go ?_ | refine g_nt ?_ | refine g_nf ?_ | refine g_nu ?_ | ((first | refine al_split_t rfl rfl (lt_ok rfl) (fun hb => ?_) (fun hb => ?_) | refine al_split_f rfl rfl (lt_ok rfl) (fun hb => ?_) (fun hb => ?_)) <;> ((try have hq := dX hb); (try (exfalso; omega))))) | (apply qr_pick; refine r_pick ?_) | (apply qr_eql; refine r_eql ?_) | (apply qr_add; refine r_add ?_) | (apply qr_not; refine r_not ?_) | (apply qr_len; refine r_len ?_) | (apply qr_extract; refine r_extract ?_) | (apply qr_load; refine r_load ?_) | (apply qr_alloc; refine r_alloc ?_) | (apply qr_store; refine r_store ?_) | (apply qr_build; refine r_build ?_) | (apply qr_lits; refine r_lits ?_))
 refine rt1 ?_
 rfl
end Go.Proofs.YtedoeogopmenpaaDoor
end
section
namespace Go.Proofs.YtedoeogopmenpaaDoor
open Go.RowKit
theorem zero_size : ByteArray.size ⟨#[]⟩ ≤ 100000 := by decide
theorem two_tame {op : Int} {a b : Ex} (ha : a.tame) (hb : b.tame) : (two op a b).tame := ⟨zero_size, (by show 2 ≤ 100000; omega), ha, hb, trivial⟩
theorem leaf_tame {op : Int} {s : ByteArray} (h : s.size ≤ 100000) : (leafE op s).tame := ⟨h, (by show 0 ≤ 100000; omega), trivial⟩
theorem num_tame (n u : Int) : (numE n u).tame := ⟨zero_size, (by show 0 ≤ 100000; omega), trivial⟩
theorem name_tame {l t : List Tok} {s : ByteArray} (h : nameP nameV l = .ok s t) (hx : Texts l) : s.size ≤ 100000 := by
 obtain ⟨_, _, rfl, _⟩ := nameP_ok h
 exact hx.nxt
theorem Der.tame {f o : Nat} {l t : List Tok} {e : Ex} (h : Der f l e o t) : Texts l → e.tame := by
 induction h with
 | num hk => exact fun _ => num_tame _ _
 | yes h => exact fun _ => num_tame _ _
 | no h => exact fun _ => num_tame _ _
 | word hw ho hn => exact fun hx => leaf_tame (name_tame hn (hx.suf (suf_is hw)))
 | name hn => exact fun hx => leaf_tame (name_tame hn hx)
 | call hw ho h1 ha h2 hb h3 iha ihb =>
  intro hx
  have x1 := (hx.suf (suf_is hw)).suf (suf_is h1)
  have x2 := (x1.suf ha.suf).suf (suf_is h2)
  exact two_tame (iha x1) (ihb x2)
 | paren h1 he h2 ih => exact fun hx => ih (hx.suf (suf_is h1))
 | iff h1 ha h2 hb h3 hc iha ihb ihc =>
  intro hx
  have x1 := hx.suf (suf_is h1)
  have x2 := (x1.suf ha.suf).suf (suf_is h2)
  have x3 := (x2.suf hb.suf).suf (suf_is h3)
  exact ⟨zero_size, (by show 3 ≤ 100000; omega), iha x1, ihb x2, ihc x3, trivial⟩
 | nott hf h ha ih => exact fun hx => ⟨zero_size, (by show 1 ≤ 100000; omega), ih (hx.suf (suf_is h)), trivial⟩
 | op ha hs hf hg h4 hb iha ihb =>
  intro hx
  obtain ⟨w, hw⟩ := sym_is hs
  exact two_tame (iha hx) (ihb ((hx.suf ha.suf).suf (suf_is hw)))
theorem wholeP_tame {after : ByteArray} {l t : List Tok} {e : Ex} (h : wholeP after l = .ok e t) (hx : Texts l) : e.tame := by
 obtain ⟨u, h1, _⟩ := wholeP_ok h
 obtain ⟨o, hd⟩ := readE_der h1
 exact hd.tame hx
theorem zero_tame : Ex.zero.tame := ⟨zero_size, (by show 0 ≤ 100000; omega), trivial⟩
theorem letsP_tame : ∀ (k : Nat) (ls : List (ByteArray × Ex)) (l : List Tok) {r : List (ByteArray × Ex)} {t : List Tok}, letsP k ls l = .ok r t → Texts l → ls.length ≤ 20 → (∀ q ∈ ls, letTame q) → r.length ≤ 20 ∧ ∀ q ∈ r, letTame q
 | 0, ls, l, r, t, h, _, hl, ht => by cases h; exact ⟨hl, ht⟩
 | k + 1, ls, l, r, t, h, hx, hl, ht => by
  simp only [letsP] at h
  split at h
  ·rename_i hT
   split at h
   ·rename_i h20
    obtain ⟨s, u1, h1, g1⟩ := then_less h
    obtain ⟨_, u2, h2, g2⟩ := then_less g1
    obtain ⟨e, u3, h3, g3⟩ := then_less g2
    have x1 := hx.suf (suf_is hT)
    have x2 := x1.suf (freshP_suf h1)
    have x3 := x2.suf (suf_want h2)
    have x4 := x3.suf (wholeP_suf h3)
    refine letsP_tame k _ _ g3 x4 (by simp; omega) (fun q hq => ?_)
    rcases List.mem_append.1 hq with hq | hq
    ·exact ht q hq
    ·simp only [List.mem_singleton] at hq
     subst hq
     obtain ⟨_, _, hs, _⟩ := freshP_ok h1
     exact ⟨by rw [hs]; exact x1.nxt, wholeP_tame h3 x3⟩
   ·cases h
  ·cases h
   exact ⟨hl, ht⟩
theorem partsP_tame : ∀ (ws : List ByteArray) (es : List Ex) (l : List Tok) {r : List Ex} {t : List Tok}, partsP ws es l = .ok r t → Texts l → (∀ e ∈ es, Ex.tame e) → (∀ e ∈ r, Ex.tame e) ∧ Suf l t
 | [], es, l, r, t, h, _, ht => by cases h; exact ⟨ht, .refl _⟩
 | w :: ws, es, l, r, t, h, hx, ht => by
  simp only [partsP] at h
  obtain ⟨_, u1, h1, g1⟩ := then_less h
  obtain ⟨e, u2, h2, g2⟩ := then_less g1
  have x1 := hx.suf (suf_want h1)
  have x2 := x1.suf (wholeP_suf h2)
  obtain ⟨k1, k2⟩ := partsP_tame ws _ _ g2 x2 (fun q hq => by
   rcases List.mem_append.1 hq with hq | hq
   ·exact ht q hq
   ·simp only [List.mem_singleton] at hq
    subst hq
    exact wholeP_tame h2 x1)
  exact ⟨k1, (suf_want h1).trans ((wholeP_suf h2).trans k2)⟩
theorem getD_tame {es : List Ex} (h : ∀ e ∈ es, Ex.tame e) (i : Nat) : (es.getD i Ex.zero).tame := by
 rw [List.getD_eq_getElem?_getD]
 cases hx : es[i]? with
 | none => exact zero_tame
 | some e => exact h e (List.mem_of_getElem? hx)
theorem bylawsP_tame {l t : List Tok} {x : By} (h : bylawsP l = .ok x t) (hx : Texts l) : x.tame := by
 unfold bylawsP at h
 obtain ⟨_, u1, h1, g1⟩ := then_less h
 obtain ⟨nm, u2, h2, g2⟩ := then_less g1
 obtain ⟨_, u3, h3, g3⟩ := then_less g2
 obtain ⟨ls, u4, h4, g4⟩ := then_less g3
 obtain ⟨es, u5, h5, g5⟩ := then_less g4
 have x1 := hx.suf (suf_want h1)
 have x2 := x1.suf (suf_name h2)
 have x3 := x2.suf (suf_want h3)
 have x4 := x3.suf (letsP_suf _ _ _ h4)
 obtain ⟨k1, k2⟩ := letsP_tame _ _ _ h4 x3 (by simp) (by simp)
 obtain ⟨m1, _⟩ := partsP_tame _ _ _ h5 x4 (by simp)
 unfold numsP at g5
 obtain ⟨q, u6, _, g6⟩ := then_less g5
 obtain ⟨s, u7, _, g7⟩ := then_less g6
 obtain ⟨c, u8, _, g8⟩ := then_less g7
 unfold lastP at g8
 split at g8
 ·cases g8
  exact ⟨name_tame h2 x1, by show ls.length ≤ 100000; omega, k2, getD_tame m1 0, getD_tame m1 1, getD_tame m1 2, getD_tame m1 3⟩
 ·cases g8
theorem byz_tame : By.zero.tame := ⟨zero_size, (by show 0 ≤ 100000; omega), fun q hq => by simp [By.zero] at hq, zero_tame, zero_tame, zero_tame, zero_tame⟩
theorem parseV_tame (s : ByteArray) : (parseV s).1.tame := by
 unfold parseV
 rcases hL : lexV s with ⟨L, p, e⟩
 dsimp only
 split
 ·rename_i he
  subst he
  obtain ⟨_, _, _, _, _, hx, _⟩ := lex_ready hL
  cases hb : bylawsP L with
  | ok x t => exact bylawsP_tame hb hx
  | bad p c => exact byz_tame
 ·exact byz_tame
theorem parseEV_tame (s : ByteArray) : (parseEV s).1.tame := by
 unfold parseEV
 rcases hL : lexV s with ⟨L, p, e⟩
 dsimp only
 split
 ·rename_i he
  subst he
  obtain ⟨_, _, _, _, _, hx, _⟩ := lex_ready hL
  cases hb : allP L with
  | ok x t =>
   unfold allP at hb
   obtain ⟨e, u, h1, h2⟩ := then_less hb
   obtain ⟨o, hd⟩ := readE_der h1
   split at h2
   ·split at h2
    ·cases h2
     exact hd.tame hx
    ·cases h2
   ·cases h2
  | bad p c => exact zero_tame
 ·exact zero_tame
end Go.Proofs.YtedoeogopmenpaaDoor
end
section
namespace Go.Proofs.YtedoeogopmenpaaDoor
theorem nxt_cons (t : Tok) (l : List Tok) : nxt (t :: l) = t := rfl
theorem isT_cons (t : Tok) (l : List Tok) (s : ByteArray) : isT (t :: l) s = (decide (t.k ≠ 3) && decide (t.s = s)) := rfl
theorem isT_is (t : Tok) (l : List Tok) (hk : t.k ≠ 3) : isT (t :: l) t.s = true := by simp [isT_cons, hk]
theorem sym_next {op : Int} {t : Tok} {g : Nat} (h : opInfo op = some (t, g)) (l : List Tok) : symP (t :: l) = some (op, g) := by
 rcases opInfo_cases h with ⟨rfl, rfl, rfl⟩ | ⟨rfl, rfl, rfl⟩ | ⟨rfl, rfl, rfl⟩ | ⟨rfl, rfl, rfl⟩ | ⟨rfl, rfl, rfl⟩ | ⟨rfl, rfl, rfl⟩ | ⟨rfl, rfl, rfl⟩ | ⟨rfl, rfl, rfl⟩ <;> rfl
theorem op_form {op : Int} {t : Tok} {g : Nat} (h : opInfo op = some (t, g)) : formV op = g ∧ 1 ≤ g ∧ g ≤ 6 ∧ g ≠ 3 := by
 rcases opInfo_cases h with ⟨rfl, rfl, rfl⟩ | ⟨rfl, rfl, rfl⟩ | ⟨rfl, rfl, rfl⟩ | ⟨rfl, rfl, rfl⟩ | ⟨rfl, rfl, rfl⟩ | ⟨rfl, rfl, rfl⟩ | ⟨rfl, rfl, rfl⟩ | ⟨rfl, rfl, rfl⟩ <;> decide
theorem op_plain {op : Int} {t : Tok} {g : Nat} (h : opInfo op = some (t, g)) (l : List Tok) : isT (t :: l) w_cents = false ∧ isT (t :: l) w_minutes = false := by
 rcases opInfo_cases h with ⟨rfl, rfl, rfl⟩ | ⟨rfl, rfl, rfl⟩ | ⟨rfl, rfl, rfl⟩ | ⟨rfl, rfl, rfl⟩ | ⟨rfl, rfl, rfl⟩ | ⟨rfl, rfl, rfl⟩ | ⟨rfl, rfl, rfl⟩ | ⟨rfl, rfl, rfl⟩ <;> exact ⟨rfl, rfl⟩
theorem form_le (op : Int) : formV op ≤ 7 := by
 unfold formV
 split
 ·omega
 ·split
  ·omega
  ·split
   ·rename_i h
    have := op_form h
    omega
   ·omega
theorem ploop_stop {rec : Nat → List Tok → Rd Ex} {sym : List Tok → Option (Int × Nat)} {form k own : Nat} {e : Ex} {l : List Tok} (h : ∀ op g, sym l = some (op, g) → g < form ∨ own < g ∨ (own = 4 ∧ g = 4)) : ploop sym rec form k own e l = .ok e l := by
 cases k with
 | zero => rfl
 | succ k =>
  simp only [ploop]
  cases hs : sym l with
  | none => rfl
  | some q =>
   obtain ⟨op, g⟩ := q
   simp only
   rw [if_pos (h op g hs)]
theorem co_fuel {rec : Nat → List Tok → Rd Ex} {sym : List Tok → Option (Int × Nat)} (h : Parts rec sym) {form k k' own : Nat} {e : Ex} {l : List Tok} (hk : l.length < k) (hk' : l.length < k') (ho : own ≤ 7) : ploop sym rec form k own e l = ploop sym rec form k' own e l := by
 rw [ploop_down h form k l.length k own e l (Nat.le_refl _) hk hk ho, ploop_down h form k l.length k' own e l (Nat.le_refl _) hk' hk ho]
theorem co_parts (n : Nat) : Parts (rdE n) symP := pexp_parts (syn_base nameV) n
theorem rd_step (n f : Nat) (l : List Tok) : rdE (n + 1) f l = (prfx (primP nameV) ifP notP (rdE n) f l).then fun x t => ploop symP (rdE n) f (t.length + 1) x.2 x.1 t := rfl
theorem rd_prim {n f : Nat} {l t : List Tok} {e : Ex} (h1 : isT l w_if = false) (h2 : isT l w_not = false) (hp : primP nameV (rdE n) l = .ok e t) : rdE (n + 1) f l = ploop symP (rdE n) f (t.length + 1) 7 e t := by
 rw [rd_step]
 have : prfx (primP nameV) ifP notP (rdE n) f l = .ok (e, 7) t := by
  unfold prfx ifP notP
  simp only [h1, h2, Bool.false_eq_true, if_false, ite_self, hp, then_ok]
 rw [this, then_ok]
def ownV (e : Ex) (f : Nat) : Nat := if formV e.op < f then 7 else formV e.op
structure Behind (own : Nat) (r : List Tok) : Prop where
 sym : ∀ op g, symP r = some (op, g) → g ≤ own
 cents : isT r w_cents = false
 minutes : isT r w_minutes = false
structure Halt (f : Nat) (r : List Tok) : Prop where
 sym : ∀ op g, symP r = some (op, g) → g < f
 cents : isT r w_cents = false
 minutes : isT r w_minutes = false
def Body (e : Ex) : Prop := ∀ n f r, f ≤ formV e.op → Behind (formV e.op) r → (e.toks itoaB 0).length ≤ n → rdE (n + 1) f (e.toks itoaB 0 ++ r) = ploop symP (rdE n) f (r.length + 1) (formV e.op) e r
theorem own_le (e : Ex) {f : Nat} (h : f ≤ 7) : f ≤ ownV e f ∧ ownV e f ≤ 7 := by
 unfold ownV
 have := form_le e.op
 split <;> omega
theorem stop_closer {f : Nat} {r : List Tok} (h : symP r = none) (h1 : isT r w_cents = false) (h2 : isT r w_minutes = false) : Halt f r := ⟨fun op g hs => (by rw [h] at hs; cases hs), h1, h2⟩
theorem rp_stop (f : Nat) (r : List Tok) : Halt f (signT w_rp :: r) := stop_closer rfl rfl rfl
theorem want_is {t : Tok} {r : List Tok} (hk : t.k ≠ 3) : want (t :: r) t.s = .ok () r := by
 unfold want
 rw [isT_is t r hk]
 rfl
theorem Body.read0 {e : Ex} (h : Body e) {n : Nat} {r : List Tok} (hs : Halt 0 r) (hn : (e.toks itoaB 0).length < n) : rdE n 0 (e.toks itoaB 0 ++ r) = .ok e r := by
 obtain ⟨n, rfl⟩ : ∃ m, n = m + 1 := ⟨n - 1, by omega⟩
 rw [h n 0 r (Nat.zero_le _) ⟨fun op g hg => by have := hs.sym op g hg; omega, hs.cents, hs.minutes⟩ (by omega)]
 exact ploop_stop fun op g hg => .inl (hs.sym op g hg)
theorem Body.whole {e : Ex} (h : Body e) {n f f' : Nat} {r : List Tok} (h1 : f ≤ f') (h2 : f' ≤ 7) (ha : Behind (ownV e f') r) (hn : (e.toks itoaB f').length ≤ n) : rdE (n + 1) f (e.toks itoaB f' ++ r) = ploop symP (rdE n) f (r.length + 1) (ownV e f') e r := by
 by_cases hf : formV e.op < f'
 ·have ho : ownV e f' = 7 := by unfold ownV; rw [if_pos hf]
  rw [toks_par itoaB hf] at hn ⊢
  simp only [List.length_cons, List.length_append, List.length_nil] at hn
  rw [ho]
  refine rd_prim rfl rfl ?_
  have hr := h.read0 (n := n) (rp_stop 0 r) (by omega)
  have e1 : signT w_lp :: (e.toks itoaB 0 ++ [signT w_rp]) ++ r = signT w_lp :: (e.toks itoaB 0 ++ signT w_rp :: r) := by simp
  rw [e1]
  have e2 : primP nameV (rdE n) (signT w_lp :: (e.toks itoaB 0 ++ signT w_rp :: r)) = (rdE n 0 (e.toks itoaB 0 ++ signT w_rp :: r)).then fun e l => (want l w_rp).then fun _ l => .ok e l := rfl
  rw [e2, hr, then_ok, want_is (t := signT w_rp) (by decide), then_ok]
 ·have ho : ownV e f' = formV e.op := by unfold ownV; rw [if_neg hf]
  rw [ho] at ha ⊢
  rw [toks_in itoaB (by omega)] at hn ⊢
  exact h n f r (by omega) ha hn
theorem Body.read {e : Ex} (h : Body e) {n f : Nat} {r : List Tok} (h2 : f ≤ 7) (hs : Halt f r) (hn : (e.toks itoaB f).length < n) : rdE n f (e.toks itoaB f ++ r) = .ok e r := by
 obtain ⟨n, rfl⟩ : ∃ m, n = m + 1 := ⟨n - 1, by omega⟩
 have ho := own_le e h2
 rw [h.whole (Nat.le_refl _) h2 ⟨fun op g hg => by have := hs.sym op g hg; omega, hs.cents, hs.minutes⟩ (by omega)]
 exact ploop_stop fun op g hg => .inl (hs.sym op g hg)
theorem body_leaf {op : Int} {s : ByteArray} (ho : op = 1 ∨ op = 2 ∨ op = 3) (hs : nameV s = true) : Body (.mk op 0 0 s []) := by
 have hne : ∀ w, nameV w = false → decide (s = w) = false := fun w hw => decide_eq_false fun e => by rw [e, hw] at hs; cases hs
 have hnm : ∀ l, nameP nameV (wordT s :: l) = .ok s l := fun l => by
  unfold nameP
  rw [nxt_cons, if_pos ⟨rfl, hs⟩]
  rfl
 have hf : formV (Ex.mk op 0 0 s []).op = 7 := by
  show formV op = 7
  rcases ho with rfl | rfl | rfl <;> rfl
 intro n f r h1 h2 h3
 rw [hf]
 rw [leaf_toks _ _ _ _ ho _ (by omega)]
 rcases ho with rfl | rfl | rfl
 ·rw [if_pos rfl]
  have hT : ∀ w, nameV w = false → isT (wordT s :: r) w = false := fun w hw => by rw [isT_cons]; simp only [hne w hw, Bool.and_false]
  refine rd_prim (hT _ (by decide)) (hT _ (by decide)) ?_
  show primP nameV (rdE n) (wordT s :: r) = _
  unfold primP
  rw [if_neg (by rw [nxt_cons]; exact (by decide : ¬ (0 : Int) = 1)), hT w_true (by decide), hT w_false (by decide), hT w_trip (by decide), hT w_member (by decide), hT w_min (by decide), hT w_max (by decide), hT w_lp (by decide)]
  simp only [Bool.false_eq_true, if_false]
  rw [hnm]
  rfl
 ·rw [if_neg (by decide), if_pos rfl]
  refine rd_prim rfl rfl ?_
  have e2 : primP nameV (rdE n) ([wordT w_trip, wordT s] ++ r) = (nameP nameV (wordT s :: r)).then fun s l => .ok (leafE 2 s) l := rfl
  rw [e2, hnm]
  rfl
 ·rw [if_neg (by decide), if_neg (by decide)]
  refine rd_prim rfl rfl ?_
  have e2 : primP nameV (rdE n) ([wordT w_member, wordT s] ++ r) = (nameP nameV (wordT s :: r)).then fun s l => .ok (leafE 3 s) l := rfl
  rw [e2, hnm]
  rfl
theorem dec_first {u : Nat} : ∃ c r, Lib.decDigits u = c :: r ∧ 48 ≤ c.toNat ∧ c.toNat ≤ 57 := by
 induction u using Nat.strongRecOn with
 | _ u ih =>
  by_cases h : u < 10
  ·refine ⟨_, [], dec_one h, ?_⟩
   rw [dig_byte h]
   omega
  ·obtain ⟨c, r, h1, h2⟩ := ih (u / 10) (by omega)
   exact ⟨c, r ++ [UInt8.ofNat (48 + u % 10)], by rw [dec_more h, h1]; rfl, h2⟩
theorem itoa_ne {n : Int} (h : 0 ≤ n) {c : UInt8} {r : List UInt8} (hc : ¬ (48 ≤ c.toNat ∧ c.toNat ≤ 57)) : itoaB n ≠ ⟨⟨c :: r⟩⟩ := by
 intro e
 obtain ⟨d, q, h1, h2, h3⟩ := dec_first (u := n.toNat)
 rw [itoaB_pos h, B, h1] at e
 have : d = c := by
  have := congrArg (fun b => b.data.toList.head?) e
  simpa using this
 subst this
 exact hc ⟨h2, h3⟩
theorem body_num {n u : Int} (h : numRight n u ⟨#[]⟩ = true) : Body (.mk 0 n u ⟨#[]⟩ []) := by
 unfold numRight at h
 simp only [Bool.and_eq_true, decide_eq_true_eq] at h
 obtain ⟨⟨_, hu0, hu3⟩, hn0, hn1⟩ := h
 intro m f r h1 h2 h3
 have hf : formV (Ex.mk 0 n u ⟨#[]⟩ []).op = 7 := rfl
 rw [hf]
 rw [num_toks _ _ _ _ _ (by omega)]
 have hk : ∀ (l : List Tok), (isT (⟨1, itoaB n, n, 0⟩ :: l) w_if = false ∧ isT (⟨1, itoaB n, n, 0⟩ :: l) w_not = false) ∧ primP nameV (rdE m) (⟨1, itoaB n, n, 0⟩ :: l) = .ok (numE n (unitP l).1) (unitP l).2 := fun l => by
  refine ⟨⟨?_, ?_⟩, rfl⟩
  ·rw [isT_cons, decide_eq_false (itoa_ne hn0 (c := 105) (by decide)), Bool.and_false]
  ·rw [isT_cons, decide_eq_false (itoa_ne hn0 (c := 110) (by decide)), Bool.and_false]
 unfold numToks
 by_cases hu : u = 3
 ·subst hu
  rw [if_pos rfl] at hn1 ⊢
  by_cases hn : n = 1
  ·subst hn
   exact rd_prim rfl rfl rfl
  ·obtain rfl : n = 0 := by omega
   exact rd_prim rfl rfl rfl
 ·rw [if_neg hu]
  by_cases h4 : u = 1
  ·subst h4
   obtain ⟨⟨k1, k2⟩, k3⟩ := hk (wordT w_cents :: r)
   exact rd_prim k1 k2 k3
  ·rw [if_neg h4]
   by_cases h5 : u = 2
   ·subst h5
    obtain ⟨⟨k1, k2⟩, k3⟩ := hk (wordT w_minutes :: r)
    exact rd_prim k1 k2 k3
   ·rw [if_neg h5]
    obtain rfl : u = 0 := by omega
    obtain ⟨⟨k1, k2⟩, k3⟩ := hk r
    refine rd_prim k1 k2 ?_
    show primP nameV (rdE m) (⟨1, itoaB n, n, 0⟩ :: r) = _
    rw [k3]
    have : unitP r = (0, r) := by
     unfold unitP
     simp only [h2.cents, h2.minutes, Bool.false_eq_true, if_false]
    rw [this]
    rfl
theorem body_not {x : Ex} (h : Body x) : Body (.mk 12 0 0 ⟨#[]⟩ [x]) := by
 intro n f r h1 h2 h3
 have hf : formV (Ex.mk 12 0 0 ⟨#[]⟩ [x]).op = 3 := rfl
 rw [hf] at h1 h2 ⊢
 rw [not_toks] at h3 ⊢
 rw [List.length_cons] at h3
 have hr := h.read (n := n) (f := 3) (r := r) (by omega) ⟨fun op g hg => by have := h2.sym op g hg; have := sym_le hg; omega, h2.cents, h2.minutes⟩ (by omega)
 have hp : prfx (primP nameV) ifP notP (rdE n) f (wordT w_not :: x.toks itoaB 3 ++ r) = .ok (.mk 12 0 0 ⟨#[]⟩ [x], 3) r := by
  have e1 : ifP (rdE n) (wordT w_not :: x.toks itoaB 3 ++ r) = none := rfl
  have e2 : notP (rdE n) (wordT w_not :: x.toks itoaB 3 ++ r) = some ((rdE n 3 (x.toks itoaB 3 ++ r)).then fun a l => .ok (.mk 12 0 0 ⟨#[]⟩ [a]) l) := rfl
  unfold prfx
  rw [e1, e2, hr]
  simp only [ite_self]
  rw [if_pos h1]
  rfl
 rw [rd_step, hp, then_ok]
theorem body_if {x y z : Ex} (hx : Body x) (hy : Body y) (hz : Body z) : Body (.mk 15 0 0 ⟨#[]⟩ [x, y, z]) := by
 intro n f r h1 h2 h3
 have hf : formV (Ex.mk 15 0 0 ⟨#[]⟩ [x, y, z]).op = 0 := rfl
 rw [hf] at h1 h2 ⊢
 obtain rfl : f = 0 := by omega
 rw [if_toks] at h3 ⊢
 simp only [List.length_cons, List.length_append] at h3
 have h0 : Halt 0 r := ⟨fun op g hg => by have := h2.sym op g hg; have := sym_le hg; omega, h2.cents, h2.minutes⟩
 have hrz := hz.read0 (n := n) h0 (by omega)
 have hry := hy.read0 (n := n) (r := wordT w_else :: (z.toks itoaB 0 ++ r)) (stop_closer rfl rfl rfl) (by omega)
 have hrx := hx.read0 (n := n) (r := wordT w_then :: (y.toks itoaB 0 ++ wordT w_else :: (z.toks itoaB 0 ++ r))) (stop_closer rfl rfl rfl) (by omega)
 have e0 : wordT w_if :: (x.toks itoaB 0 ++ wordT w_then :: (y.toks itoaB 0 ++ wordT w_else :: z.toks itoaB 0)) ++ r = wordT w_if :: (x.toks itoaB 0 ++ wordT w_then :: (y.toks itoaB 0 ++ wordT w_else :: (z.toks itoaB 0 ++ r))) := by simp
 rw [e0]
 generalize x.toks itoaB 0 ++ wordT w_then :: (y.toks itoaB 0 ++ wordT w_else :: (z.toks itoaB 0 ++ r)) = X at hrx
 have hp : prfx (primP nameV) ifP notP (rdE n) 0 (wordT w_if :: X) = .ok (.mk 15 0 0 ⟨#[]⟩ [x, y, z], 0) r := by
  have e1 : ifP (rdE n) (wordT w_if :: X) = some ((rdE n 0 X).then fun a l => (want l w_then).then fun _ l => (rdE n 0 l).then fun b l => (want l w_else).then fun _ l => (rdE n 0 l).then fun c l => .ok (.mk 15 0 0 ⟨#[]⟩ [a, b, c]) l) := rfl
  unfold prfx
  rw [e1, hrx, then_ok, want_is (t := wordT w_then) (by decide), then_ok, hry, then_ok, want_is (t := wordT w_else) (by decide), then_ok, hrz]
  rfl
 rw [rd_step, hp, then_ok]
theorem body_call {op : Int} (ho : op = 8 ∨ op = 9) {x y : Ex} (hx : Body x) (hy : Body y) : Body (two op x y) := by
 intro n f r h1 h2 h3
 have hf : formV (two op x y).op = 7 := by
  show formV op = 7
  rcases ho with rfl | rfl <;> rfl
 rw [hf] at h1 h2 ⊢
 rw [call_toks ho] at h3 ⊢
 simp only [List.length_cons, List.length_append, List.length_nil] at h3
 have hry := hy.read0 (n := n) (r := signT w_rp :: r) (rp_stop 0 r) (by omega)
 have hrx := hx.read0 (n := n) (r := signT w_comma :: (y.toks itoaB 0 ++ signT w_rp :: r)) (stop_closer rfl rfl rfl) (by omega)
 have hb : ∀ op, both (rdE n) op (signT w_lp :: (x.toks itoaB 0 ++ signT w_comma :: (y.toks itoaB 0 ++ signT w_rp :: r))) = .ok (two op x y) r := fun op => by
  unfold both
  rw [want_is (t := signT w_lp) (by decide), then_ok, hrx, then_ok, want_is (t := signT w_comma) (by decide), then_ok, hry, then_ok, want_is (t := signT w_rp) (by decide), then_ok]
 rcases ho with rfl | rfl
 ·rw [if_pos rfl]
  refine rd_prim rfl rfl ?_
  have e0 : wordT w_min :: signT w_lp :: (x.toks itoaB 0 ++ signT w_comma :: (y.toks itoaB 0 ++ [signT w_rp])) ++ r = wordT w_min :: signT w_lp :: (x.toks itoaB 0 ++ signT w_comma :: (y.toks itoaB 0 ++ signT w_rp :: r)) := by simp
  rw [e0]
  exact hb 8
 ·rw [if_neg (by decide)]
  refine rd_prim rfl rfl ?_
  have e0 : wordT w_max :: signT w_lp :: (x.toks itoaB 0 ++ signT w_comma :: (y.toks itoaB 0 ++ [signT w_rp])) ++ r = wordT w_max :: signT w_lp :: (x.toks itoaB 0 ++ signT w_comma :: (y.toks itoaB 0 ++ signT w_rp :: r)) := by simp
  rw [e0]
  exact hb 9
theorem body_op {op : Int} {t : Tok} {g : Nat} (ho : opInfo op = some (t, g)) {x y : Ex} (hx : Body x) (hy : Body y) : Body (two op x y) := by
 intro n f r h1 h2 h3
 obtain ⟨hg, g1, g6, g3⟩ := op_form ho
 have hf : formV (two op x y).op = g := hg
 rw [hf] at h1 h2 ⊢
 rw [op_toks ho] at h3 ⊢
 simp only [List.length_cons, List.length_append] at h3
 have e0 : x.toks itoaB (leftV g) ++ t :: y.toks itoaB (g + 1) ++ r = x.toks itoaB (leftV g) ++ t :: (y.toks itoaB (g + 1) ++ r) := by simp
 rw [e0]
 have hl : g ≤ leftV g ∧ leftV g ≤ 7 ∧ (g = 4 → leftV g = 5) := by unfold leftV; split <;> omega
 have hox := own_le x hl.2.1
 have hs := sym_next ho (y.toks itoaB (g + 1) ++ r)
 have hp := op_plain ho (y.toks itoaB (g + 1) ++ r)
 rw [hx.whole (f := f) (f' := leftV g) (by omega) hl.2.1 ⟨fun op' g' hg' => by rw [hs] at hg'; cases hg'; omega, hp.1, hp.2⟩ (by omega)]
 have hry := hy.read (n := n) (f := g + 1) (r := r) (by omega) ⟨fun op' g' hg' => by have := h2.sym op' g' hg'; omega, h2.cents, h2.minutes⟩ (by omega)
 rw [ploop, hs]
 simp only
 rw [if_neg (by omega)]
 have e1 : (t :: (y.toks itoaB (g + 1) ++ r)).drop 1 = y.toks itoaB (g + 1) ++ r := rfl
 rw [e1, hry, then_ok]
 exact co_fuel (co_parts n) (by simp only [List.length_cons, List.length_append]; omega) (by omega) (by omega)
theorem body_all : ∀ (d : Nat) (e : Ex), e.right d = true → Body e
 | 0, e, h => by rw [right_zero] at h; cases h
 | d + 1, e, h => by
  have ih := body_all d
  rcases right_shape h with ⟨n, u, rfl, h'⟩ | ⟨op, s, ho, rfl, h'⟩ | ⟨x, rfl, hx⟩ | ⟨x, y, z, rfl, hx, hy, hz⟩ | ⟨op, x, y, ho, rfl, hx, hy⟩ | ⟨op, x, y, t, g, ho, rfl, hx, hy⟩
  ·exact body_num h'
  ·exact body_leaf ho h'
  ·exact body_not (ih x hx)
  ·exact body_if (ih x hx) (ih y hy) (ih z hz)
  ·exact body_call ho (ih x hx) (ih y hy)
  ·exact body_op ho (ih x hx) (ih y hy)
end Go.Proofs.YtedoeogopmenpaaDoor
end
section
namespace Go.Proofs.YtedoeogopmenpaaDoor
theorem ext_all (s : ByteArray) : s.extract 0 s.size = s := by
 apply ba_ext
 simp [ByteArray.data_extract]
theorem tk_word {s : ByteArray} (h : wordB s = true) : Tk (wordT s) := by
 simp only [wordB, Bool.and_eq_true, Bool.not_eq_true', decide_eq_false_iff_not, decide_eq_true_eq] at h
 obtain ⟨⟨⟨h1, h2⟩, h3⟩, h4⟩ := h
 have hs := nonempty h1
 have := token_word (s := s) (p := 0) (k := s.size) h2 hs (Nat.le_refl _) (by rw [ext_all, h4]; rfl)
 rw [if_pos (by omega), ext_all] at this
 exact ⟨this, hs, (by decide : ¬ (0 : Int) = 3)⟩
theorem tk_sign {s : ByteArray} (hl : letterB (bAt s 0) = false) (hd : digitB (bAt s 0) = false) (h0 : 0 < s.size) (h : signTo s 0 = s.size) : Tk (signT s) := by
 have := token_sign (s := s) (p := 0) hl hd h0
 rw [h, if_neg (by omega), Int.toNat_natCast, Nat.zero_add, ext_all] at this
 exact ⟨this, h0, (by decide : ¬ (2 : Int) = 3)⟩
theorem tk_name {s : ByteArray} (h : nameV s = true) : Tk (wordT s) := by
 unfold nameV at h
 rw [Bool.and_eq_true] at h
 exact tk_word h.1
theorem dec_digits {u : Nat} : ∀ c ∈ Lib.decDigits u, digitB c = true := by
 have hd : ∀ v : Nat, v < 10 → digitB (UInt8.ofNat (48 + v)) = true := fun v hv => by
  simp only [digitB, Bool.and_eq_true, decide_eq_true_eq, dig_byte hv]
  omega
 induction u using Nat.strongRecOn with
 | _ u ih =>
  by_cases h : u < 10
  ·rw [dec_one h]
   intro c hc
   obtain rfl := List.mem_singleton.1 hc
   exact hd u h
  ·rw [dec_more h]
   intro c hc
   rcases List.mem_append.1 hc with hc | hc
   ·exact ih (u / 10) (by omega) c hc
   ·obtain rfl := List.mem_singleton.1 hc
    exact hd _ (by omega)
theorem dec_head {u : Nat} (hu : 0 < u) : ∃ c r, Lib.decDigits u = c :: r ∧ c.toNat ≠ 48 := by
 induction u using Nat.strongRecOn with
 | _ u ih =>
  by_cases h : u < 10
  ·refine ⟨_, [], dec_one h, ?_⟩
   rw [dig_byte h]
   omega
  ·obtain ⟨c, r, h1, h2⟩ := ih (u / 10) (by omega) (by omega)
   exact ⟨c, r ++ [UInt8.ofNat (48 + u % 10)], by rw [dec_more h, h1]; rfl, h2⟩
theorem bAt_B {l : List UInt8} {j : Nat} (h : j < l.length) : bAt (B l) j = l[j] := by rw [bAt_eq _ _ (by simpa using h)]
theorem numTo_same {s t : ByteArray} : ∀ k, (∀ j, j < k → bAt s j = bAt t j) → numTo s k = numTo t k
 | 0, _ => rfl
 | k + 1, h => by
  simp only [numTo]
  rw [numTo_same k fun j hj => h j (by omega), h k (by omega)]
theorem numTo_dec (u : Nat) : numTo (B (Lib.decDigits u)) (Lib.decDigits u).length = u := by
 induction u using Nat.strongRecOn with
 | _ u ih =>
  by_cases h : u < 10
  ·rw [dec_one h]
   simp only [List.length_singleton, numTo]
   rw [bAt_B (by simp)]
   simp only [List.getElem_cons_zero, dig_byte h]
   omega
  ·have hi := ih (u / 10) (by omega)
   rw [dec_more h, List.length_append, List.length_singleton]
   simp only [numTo]
   rw [numTo_same (t := B (Lib.decDigits (u / 10))) _ (fun j hj => by rw [bAt_B (by simp; omega), bAt_B hj, List.getElem_append_left hj]), hi, bAt_B (by simp)]
   simp only [List.getElem_append_right (Nat.le_refl _), Nat.sub_self, List.getElem_cons_zero, dig_byte (show u % 10 < 10 by omega)]
   omega
theorem tk_num {n : Int} (h0 : 0 ≤ n) (h1 : n ≤ 1000000000000000) : Tk ⟨1, itoaB n, n, 0⟩ := by
 obtain ⟨u, rfl⟩ : ∃ u : Nat, n = u := ⟨n.toNat, by omega⟩
 rw [itoaB_pos h0, Int.toNat_natCast]
 have hz : (B (Lib.decDigits u)).size = (Lib.decDigits u).length := List.size_toArray
 have hall : ∀ j, j < (B (Lib.decDigits u)).size → digitB (bAt (B (Lib.decDigits u)) j) = true := fun j hj => by
  rw [bAt_B (by omega)]
  exact dec_digits _ (List.getElem_mem _)
 have hn := numTo_dec u
 rw [← hz] at hn
 obtain ⟨c, r, hc, _⟩ := dec_first (u := u)
 have hpos : 0 < (B (Lib.decDigits u)).size := by rw [hz, hc]; simp
 have hd := hall 0 hpos
 have hl : letterB (bAt (B (Lib.decDigits u)) 0) = false := by
  have := digit_bd hd
  simp only [letterB, Bool.and_eq_false_iff, decide_eq_false_iff_not]
  omega
 have hok : numOk (B (Lib.decDigits u)) = true := by
  refine numOk_yes hpos (pre_all hall) ?_ (by rw [hn]; exact h1)
  by_cases h : u < 10
  ·left
   rw [hz, dec_one h]
   rfl
  ·right
   obtain ⟨d, q, hq, hne⟩ := dec_head (u := u) (by omega)
   have : bAt (B (Lib.decDigits u)) 0 = d := by
    rw [bAt_B (by rw [hq]; simp)]
    simp only [hq, List.getElem_cons_zero]
   rw [this]
   exact hne
 have := token_num (s := B (Lib.decDigits u)) (p := 0) (k := (B (Lib.decDigits u)).size) hl hd hpos (Nat.le_refl _) (by rw [ext_all, pre_all hall]; rfl)
 rw [ext_all, hok, if_pos rfl, hn] at this
 exact ⟨this, hpos, (by decide : ¬ (1 : Int) = 3)⟩
theorem tk_plain {t : Tok} (h : Tk t) {j : Nat} (hj : j < t.s.size) : isBlank (bAt t.s j) = false := by
 cases hb : isBlank (bAt t.s j) with
 | false => rfl
 | true =>
  have h1 := blank_alnum hb
  obtain ⟨_, _, _, _, h3⟩ := tokenV_form (s := t.s) (p := 0) h.2.1 h.1
  rcases h3 with ⟨_, _, k, _⟩ | ⟨_, _, _, k, _⟩ | ⟨_, _, _, k, _⟩
  ·rw [ext_all] at k
   have := pre_lt (F := alnumB) (s := t.s) (j := j) (by simp only at k; omega)
   rw [h1.1] at this
   cases this
  ·rw [ext_all] at k
   have := pre_lt (F := digitB) (s := t.s) (j := j) (by simp only at k; omega)
   rw [h1.2.1] at this
   cases this
  ·by_cases h0 : j = 0
   ·subst h0
    rw [tk_not_blank h] at hb
    cases hb
   ·unfold signTo at k
    simp only at k
    split at k
    ·rename_i h2
     obtain rfl : j = 1 := by omega
     exact absurd (by simpa using h2.2.1) h1.2.2.2
    ·split at k <;> omega
inductive LaidL : List UInt8 → List Tok → Prop where
 | nil : LaidL [] []
 | one {t : Tok} (h : Tk t) : LaidL t.s.data.toList [t]
 | cons {t : Tok} {b : UInt8} {bs : List UInt8} {r : List Tok} (h : Tk t) (hb : isBlank b = true) (hr : LaidL bs r) : LaidL (t.s.data.toList ++ b :: bs) (t :: r)
inductive LaidC : List UInt8 → List Tok → Prop where
 | nil : LaidC [] []
 | cons {t : Tok} {b : UInt8} {bs : List UInt8} {r : List Tok} (h : Tk t) (hb : isBlank b = true) (hr : LaidC bs r) : LaidC (t.s.data.toList ++ b :: bs) (t :: r)
theorem LaidC.app {a b : List UInt8} {l m : List Tok} (h : LaidC a l) (h' : LaidC b m) : LaidC (a ++ b) (l ++ m) := by
 induction h with
 | nil => exact h'
 | cons h hb hr ih =>
  rw [List.append_assoc, List.cons_append, List.cons_append]
  exact .cons h hb ih
theorem LaidC.laid {a : List UInt8} {l : List Tok} (h : LaidC a l) : LaidL a l := by
 induction h with
 | nil => exact .nil
 | cons h hb hr ih => exact .cons h hb ih
theorem txt_laid : ∀ {l : List Tok}, l ≠ [] → (∀ t ∈ l, Tk t) → LaidL (txt l).data.toList l
 | [], h, _ => absurd rfl h
 | [t], _, h => by rw [txt_one]; exact .one (h t (by simp))
 | t :: u :: r, _, h => by
  rw [txt_cons t (by simp)]
  have e : (t.s ++ (blank1 ++ txt (u :: r))).data.toList = t.s.data.toList ++ 32 :: (txt (u :: r)).data.toList := by
   simp [ByteArray.data_append, blank1]
  rw [e]
  exact .cons (h t (by simp)) rfl (txt_laid (by simp) fun x hx => h x (List.mem_cons_of_mem _ hx))
theorem txt_close : ∀ {l : List Tok} {b : UInt8}, l ≠ [] → (∀ t ∈ l, Tk t) → isBlank b = true → LaidC ((txt l).data.toList ++ [b]) l
 | [], _, h, _, _ => absurd rfl h
 | [t], b, _, h, hb => by rw [txt_one]; exact .cons (h t (by simp)) hb .nil
 | t :: u :: r, b, _, h, hb => by
  rw [txt_cons t (by simp)]
  have e : (t.s ++ (blank1 ++ txt (u :: r))).data.toList ++ [b] = t.s.data.toList ++ 32 :: ((txt (u :: r)).data.toList ++ [b]) := by
   simp [ByteArray.data_append, blank1]
  rw [e]
  exact .cons (h t (by simp)) rfl (txt_close (by simp) (fun x hx => h x (List.mem_cons_of_mem _ hx)) hb)
def spB (c : UInt8) : UInt8 := if c = 32 then 10 else c
theorem sp_blank {c : UInt8} (h : isBlank c = true) : isBlank (spB c) = true := by
 unfold spB
 split
 ·rfl
 ·exact h
theorem sp_plain {t : Tok} (h : Tk t) : t.s.data.toList.map spB = t.s.data.toList := by
 have : ∀ c ∈ t.s.data.toList, spB c = id c := fun c hc => by
  obtain ⟨j, hj, rfl⟩ := List.getElem_of_mem hc
  have h1 := tk_plain h (j := j) (by simpa using hj)
  rw [bAt_eq _ _ hj] at h1
  unfold spB
  rw [if_neg (fun e => by rw [e] at h1; cases h1)]
  rfl
 rw [List.map_congr_left this, List.map_id]
theorem LaidL.spread {a : List UInt8} {l : List Tok} (h : LaidL a l) : LaidL (a.map spB) l := by
 induction h with
 | nil => exact .nil
 | one h => rw [sp_plain h]; exact .one h
 | cons h hb hr ih =>
  rw [List.map_append, List.map_cons, sp_plain h]
  exact .cons h (sp_blank hb) ih
theorem tok_in {t : Tok} (ht : Tk t) (a : ByteArray) (c : List UInt8) (hc : ∀ b r, c = b :: r → isBlank b = true) : skip (a ++ B (t.s.data.toList ++ c)) a.size = a.size ∧ tokenV (a ++ B (t.s.data.toList ++ c)) a.size = ({ t with p := (a.size : Int) }, 0) := by
 have hs := ht.2.1
 have hz : (B (t.s.data.toList ++ c)).size = t.s.size + c.length := by
  show (t.s.data.toList ++ c).toArray.size = _
  simp
 have hX : (a ++ B (t.s.data.toList ++ c)).size = a.size + t.s.size + c.length := by rw [ByteArray.size_append, hz]; omega
 have hby : ∀ j, j < t.s.size → bAt (a ++ B (t.s.data.toList ++ c)) (a.size + j) = bAt t.s j := fun j hj => by
  rw [app_right (by omega), bAt_B (by simp; omega), bAt_eq _ _ (by simpa using hj), List.getElem_append_left (by simpa using hj)]
 have h1 : skip (a ++ B (t.s.data.toList ++ c)) a.size = a.size := skip_stop (by omega) (by rw [← Nat.add_zero a.size, hby 0 hs]; exact tk_not_blank ht)
 refine ⟨h1, tok_shift (x := { t with p := 0 }) hs ht.1 ⟨by simp, by simp only; omega, fun j hj => by rw [Nat.zero_add]; exact hby j hj⟩ (fun h => ?_)⟩
 simp only at h ⊢
 cases c with
 | nil => rw [List.length_nil] at hX; omega
 | cons b r =>
  left
  have : bAt (a ++ B (t.s.data.toList ++ b :: r)) (a.size + t.s.size) = b := by
   rw [app_right (by rw [hz]; simp), bAt_B (by simp), List.getElem_append_right (by simp)]
   simp
  rw [this]
  exact hc b r rfl
theorem laid_ok {bs : List UInt8} {l : List Tok} (h : LaidL bs l) (a : ByteArray) : LexOk (a ++ B bs) a.size (lay a.size l ++ [endTok (a ++ B bs).size]) := by
 induction h generalizing a with
 | nil =>
  have e : a ++ B [] = a := by
   apply ba_ext
   simp [ByteArray.data_append]
  rw [e]
  exact .stop _ (Nat.le_refl _) (skip_end a)
 | @one t h =>
  obtain ⟨h1, h2⟩ := tok_in h a [] (by simp)
  rw [List.append_nil] at h1 h2
  have hz : (a ++ B t.s.data.toList).size = a.size + t.s.size := by
   rw [ByteArray.size_append]
  have := h.2.1
  refine .tok _ _ _ (by omega) (by omega) (by rw [h1]; exact h2) ?_
  rw [h1]
  simp only [lay]
  rw [← hz]
  exact .stop _ (Nat.le_refl _) (skip_end _)
 | @cons t b bs r h hb hr ih =>
  obtain ⟨h1, h2⟩ := tok_in h a (b :: bs) (fun _ _ e => by cases e; exact hb)
  have h3 := ih (a ++ t.s ++ ⟨#[b]⟩)
  have e : a ++ t.s ++ ⟨#[b]⟩ ++ B bs = a ++ B (t.s.data.toList ++ b :: bs) := by
   apply ba_ext
   simp [ByteArray.data_append]
  rw [e] at h3
  have e3 : (a ++ t.s ++ ⟨#[b]⟩).size = a.size + t.s.size + 1 := by
   simp only [ByteArray.size_append]
   rfl
  rw [e3] at h3
  have hz : (a ++ B (t.s.data.toList ++ b :: bs)).size = a.size + t.s.size + 1 + bs.length := by
   rw [ByteArray.size_append]
   show a.size + (t.s.data.toList ++ b :: bs).toArray.size = _
   simp
   omega
  have hbl : bAt (a ++ B (t.s.data.toList ++ b :: bs)) (a.size + t.s.size) = b := by
   rw [app_right (by show t.s.size < (t.s.data.toList ++ b :: bs).toArray.size; simp), bAt_B (by simp), List.getElem_append_right (by simp)]
   simp
  have := h.2.1
  refine .tok _ _ _ (by omega) (by omega) (by rw [h1]; exact h2) ?_
  rw [h1]
  refine h3.from (by simp only; omega) ?_
  exact skip_more (by simp only; omega) (by simp only; rw [hbl]; exact hb)
theorem laid_lex {bs : List UInt8} {l : List Tok} (h : LaidL bs l) (hs : bs.length ≤ 4000) : lexV (B bs) = (lay 0 l ++ [endTok bs.length], 0, 0) := by
 have h1 := laid_ok h ⟨#[]⟩
 have e : (⟨#[]⟩ : ByteArray) ++ B bs = B bs := by
  apply ba_ext
  simp [ByteArray.data_append]
 have hz : (B bs).size = bs.length := List.size_toArray
 rw [e, hz] at h1
 exact lexV_ok (by omega) h1
end Go.Proofs.YtedoeogopmenpaaDoor
end
section
namespace Go.Proofs.YtedoeogopmenpaaDoor
def mv (g : Int → Int) (t : Tok) : Tok := { t with p := g t.p }
def Rd.mv {α : Type} (g : Int → Int) : Rd α → Rd α
 | .ok x r => .ok x (r.map (Go.Proofs.YtedoeogopmenpaaDoor.mv g))
 | .bad p e => .bad (g p) e
section
variable {α β : Type} {g : Int → Int}
theorem then_mv {x x' : Rd α} {f f' : α → List Tok → Rd β} (hx : x' = x.mv g) (hf : ∀ a r, f' a (r.map (mv g)) = (f a r).mv g) : x'.then f' = (x.then f).mv g := by
 subst hx
 cases x with
 | ok a r => exact hf a r
 | bad p e => rfl
theorem ite_mv {c : Prop} [Decidable c] {a b a' b' : Rd α} (ha : a' = a.mv g) (hb : b' = b.mv g) : (if c then a' else b') = (if c then a else b).mv g := by split <;> assumption
theorem drop_mv (l : List Tok) (n : Nat) : (l.map (mv g)).drop n = (l.drop n).map (mv g) := (List.map_drop ..).symm
theorem nxt_mv (h0 : g 0 = 0) (l : List Tok) : nxt (l.map (mv g)) = mv g (nxt l) := by
 cases l with
 | nil => simp [nxt, mv, h0]
 | cons t r => rfl
theorem nxt_k (h0 : g 0 = 0) (l : List Tok) : (nxt (l.map (mv g))).k = (nxt l).k := by rw [nxt_mv h0]; rfl
theorem nxt_s (h0 : g 0 = 0) (l : List Tok) : (nxt (l.map (mv g))).s = (nxt l).s := by rw [nxt_mv h0]; rfl
theorem nxt_n (h0 : g 0 = 0) (l : List Tok) : (nxt (l.map (mv g))).n = (nxt l).n := by rw [nxt_mv h0]; rfl
theorem nxt_p (h0 : g 0 = 0) (l : List Tok) : (nxt (l.map (mv g))).p = g (nxt l).p := by rw [nxt_mv h0]; rfl
theorem isT_mv (h0 : g 0 = 0) (l : List Tok) (s : ByteArray) : isT (l.map (mv g)) s = isT l s := by
 unfold isT
 rw [nxt_k h0, nxt_s h0]
theorem want_mv (h0 : g 0 = 0) (l : List Tok) (s : ByteArray) : want (l.map (mv g)) s = (want l s).mv g := by
 unfold want
 rw [isT_mv h0, drop_mv, nxt_p h0]
 exact ite_mv rfl rfl
theorem nameP_mv (h0 : g 0 = 0) (l : List Tok) : nameP nameV (l.map (mv g)) = (nameP nameV l).mv g := by
 unfold nameP
 rw [drop_mv, nxt_k h0, nxt_s h0, nxt_p h0]
 exact ite_mv rfl rfl
theorem unitP_mv (h0 : g 0 = 0) (l : List Tok) : unitP (l.map (mv g)) = ((unitP l).1, (unitP l).2.map (mv g)) := by
 unfold unitP
 rw [isT_mv h0, isT_mv h0, drop_mv]
 split
 ·rfl
 ·split <;> rfl
theorem symP_mv (h0 : g 0 = 0) (l : List Tok) : symP (l.map (mv g)) = symP l := by
 unfold symP
 simp only [isT_mv h0]
section
variable {rec : Nat → List Tok → Rd Ex}
theorem both_mv (h0 : g 0 = 0) (hr : ∀ f l, rec f (l.map (mv g)) = (rec f l).mv g) (op : Int) (l : List Tok) : both rec op (l.map (mv g)) = (both rec op l).mv g := by
 unfold both
 exact then_mv (want_mv h0 _ _) fun _ l => then_mv (hr 0 l) fun a l => then_mv (want_mv h0 _ _) fun _ l => then_mv (hr 0 l) fun b l => then_mv (want_mv h0 _ _) fun _ l => rfl
theorem primP_mv (h0 : g 0 = 0) (hr : ∀ f l, rec f (l.map (mv g)) = (rec f l).mv g) (l : List Tok) : primP nameV rec (l.map (mv g)) = (primP nameV rec l).mv g := by
 unfold primP
 simp only [drop_mv, nxt_k h0, nxt_n h0, isT_mv h0, unitP_mv h0]
 exact ite_mv rfl (ite_mv rfl (ite_mv rfl (ite_mv (then_mv (nameP_mv h0 _) fun _ _ => rfl) (ite_mv (then_mv (nameP_mv h0 _) fun _ _ => rfl) (ite_mv (both_mv h0 hr _ _) (ite_mv (both_mv h0 hr _ _) (ite_mv (then_mv (hr 0 _) fun e l => then_mv (want_mv h0 _ _) fun _ _ => rfl) (then_mv (nameP_mv h0 _) fun _ _ => rfl))))))))
theorem ifP_mv (h0 : g 0 = 0) (hr : ∀ f l, rec f (l.map (mv g)) = (rec f l).mv g) (l : List Tok) : ifP rec (l.map (mv g)) = (ifP rec l).map (Rd.mv g) := by
 unfold ifP
 rw [isT_mv h0, drop_mv]
 split
 ·exact congrArg some (then_mv (hr 0 _) fun a l => then_mv (want_mv h0 _ _) fun _ l => then_mv (hr 0 l) fun b l => then_mv (want_mv h0 _ _) fun _ l => then_mv (hr 0 l) fun c l => rfl)
 ·rfl
theorem notP_mv (h0 : g 0 = 0) (hr : ∀ f l, rec f (l.map (mv g)) = (rec f l).mv g) (l : List Tok) : notP rec (l.map (mv g)) = (notP rec l).map (Rd.mv g) := by
 unfold notP
 rw [isT_mv h0, drop_mv]
 split
 ·exact congrArg some (then_mv (hr 3 _) fun a l => rfl)
 ·rfl
theorem prfx_mv (h0 : g 0 = 0) (hr : ∀ f l, rec f (l.map (mv g)) = (rec f l).mv g) (f : Nat) (l : List Tok) : prfx (primP nameV) ifP notP rec f (l.map (mv g)) = (prfx (primP nameV) ifP notP rec f l).mv g := by
 have h1 : (if f = 0 then ifP rec (l.map (mv g)) else none) = (if f = 0 then ifP rec l else none).map (Rd.mv g) := by
  split
  ·exact ifP_mv h0 hr l
  ·rfl
 have h2 : (if f ≤ 3 then notP rec (l.map (mv g)) else none) = (if f ≤ 3 then notP rec l else none).map (Rd.mv g) := by
  split
  ·exact notP_mv h0 hr l
  ·rfl
 unfold prfx
 rw [h1, h2]
 cases (if f = 0 then ifP rec l else none) with
 | some r => exact then_mv rfl fun _ _ => rfl
 | none =>
  cases (if f ≤ 3 then notP rec l else none) with
  | some r => exact then_mv rfl fun _ _ => rfl
  | none => exact then_mv (primP_mv h0 hr l) fun _ _ => rfl
theorem ploop_mv (h0 : g 0 = 0) (hr : ∀ f l, rec f (l.map (mv g)) = (rec f l).mv g) (form : Nat) : ∀ (k own : Nat) (e : Ex) (l : List Tok), ploop symP rec form k own e (l.map (mv g)) = (ploop symP rec form k own e l).mv g
 | 0, own, e, l => rfl
 | k + 1, own, e, l => by
  simp only [ploop, symP_mv h0]
  cases hs : symP l with
  | none => rfl
  | some q =>
   obtain ⟨op, f⟩ := q
   simp only
   refine ite_mv rfl ?_
   rw [drop_mv]
   exact then_mv (hr _ _) fun x t => ploop_mv h0 hr form k f _ t
end
theorem rd_mv (h0 : g 0 = 0) : ∀ (n f : Nat) (l : List Tok), rdE n f (l.map (mv g)) = (rdE n f l).mv g
 | 0, f, l => by
  show Rd.bad 0 ((l.map (mv g)).length : Int) = Rd.bad (g 0) (l.length : Int)
  rw [h0, List.length_map]
 | n + 1, f, l => then_mv (prfx_mv h0 (rd_mv h0 n) f l) fun x t => by
  rw [List.length_map]
  exact ploop_mv h0 (rd_mv h0 n) f _ _ _ t
theorem readE_mv (h0 : g 0 = 0) (l : List Tok) : readE (l.map (mv g)) = (readE l).mv g := by
 unfold readE
 rw [List.length_map, rd_mv h0]
theorem wholeP_mv (h0 : g 0 = 0) (after : ByteArray) (l : List Tok) : wholeP after (l.map (mv g)) = (wholeP after l).mv g := by
 unfold wholeP
 refine then_mv (readE_mv h0 l) fun e t => ?_
 unfold behindP
 rw [isT_mv h0, nxt_p h0, drop_mv]
 exact ite_mv (ite_mv rfl rfl) rfl
theorem numP_mv (h0 : g 0 = 0) (a b : Int) (l : List Tok) : numP a b (l.map (mv g)) = (numP a b l).mv g := by
 unfold numP
 rw [drop_mv, nxt_k h0, nxt_n h0, nxt_p h0]
 exact ite_mv (ite_mv rfl rfl) rfl
theorem partP_mv (h0 : g 0 = 0) (w : ByteArray) (a b : Int) (l : List Tok) : partP w a b (l.map (mv g)) = (partP w a b l).mv g := by
 unfold partP
 exact then_mv (want_mv h0 _ _) fun _ l => then_mv (numP_mv h0 _ _ _) fun n l => then_mv (want_mv h0 _ _) fun _ l => rfl
theorem freshP_mv (h0 : g 0 = 0) (others : List ByteArray) (l : List Tok) : freshP others (l.map (mv g)) = (freshP others l).mv g := by
 unfold freshP
 rw [drop_mv, nxt_k h0, nxt_s h0, nxt_p h0]
 exact ite_mv (ite_mv rfl rfl) rfl
theorem letsP_mv (h0 : g 0 = 0) : ∀ (k : Nat) (ls : List (ByteArray × Ex)) (l : List Tok), letsP k ls (l.map (mv g)) = (letsP k ls l).mv g
 | 0, ls, l => rfl
 | k + 1, ls, l => by
  simp only [letsP, isT_mv h0, nxt_p h0, drop_mv]
  exact ite_mv (ite_mv (then_mv (freshP_mv h0 _ _) fun s l => then_mv (want_mv h0 _ _) fun _ l => then_mv (wholeP_mv h0 _ _) fun e l => letsP_mv h0 k _ l) rfl) rfl
theorem partsP_mv (h0 : g 0 = 0) : ∀ (ws : List ByteArray) (es : List Ex) (l : List Tok), partsP ws es (l.map (mv g)) = (partsP ws es l).mv g
 | [], es, l => rfl
 | w :: ws, es, l => by
  simp only [partsP]
  exact then_mv (want_mv h0 _ _) fun _ l => then_mv (wholeP_mv h0 _ _) fun e l => partsP_mv h0 ws _ l
theorem bylawsP_mv (h0 : g 0 = 0) (l : List Tok) : bylawsP (l.map (mv g)) = (bylawsP l).mv g := by
 unfold bylawsP
 refine then_mv (want_mv h0 _ _) fun _ l => then_mv (nameP_mv h0 _) fun nm l => then_mv (want_mv h0 _ _) fun _ l => then_mv (by rw [List.length_map]; exact letsP_mv h0 _ _ _) fun ls l => then_mv (partsP_mv h0 _ _ _) fun es l => ?_
 unfold numsP
 refine then_mv (partP_mv h0 _ _ _ _) fun q l => then_mv (partP_mv h0 _ _ _ _) fun s l => then_mv (partP_mv h0 _ _ _ _) fun c l => ?_
 unfold lastP
 rw [nxt_k h0, nxt_p h0]
 exact ite_mv rfl rfl
theorem allP_mv (h0 : g 0 = 0) (l : List Tok) : allP (l.map (mv g)) = (allP l).mv g := by
 unfold allP
 refine then_mv (readE_mv h0 l) fun e t => ?_
 rw [nxt_k h0, nxt_p h0]
 exact ite_mv (ite_mv rfl rfl) rfl
end
def clampI (B : Int) (p : Int) : Int := if p < 0 then 0 else if B < p then B else p
theorem clamp_in {B : Int} (hB : 0 ≤ B) (p : Int) : 0 ≤ clampI B p ∧ clampI B p ≤ B := by
 unfold clampI
 split
 ·omega
 ·split <;> omega
theorem clamp_id {B p : Int} (h : 0 ≤ p ∧ p ≤ B) : clampI B p = p := by
 unfold clampI
 rw [if_neg (by omega), if_neg (by omega)]
theorem mv_id {B : Int} {L : List Tok} (h : ∀ t ∈ L, 0 ≤ t.p ∧ t.p ≤ B) : L.map (mv (clampI B)) = L := by
 have : ∀ t ∈ L, mv (clampI B) t = id t := fun t ht => by
  unfold mv
  rw [clamp_id (h t ht)]
  rfl
 rw [List.map_congr_left this, List.map_id]
theorem mv_bad {α : Type} {B : Int} (hB : 0 ≤ B) {x : Rd α} {p e : Int} (hx : x = x.mv (clampI B)) (h : x = .bad p e) : 0 ≤ p ∧ p ≤ B := by
 rw [h] at hx
 injection hx with h1 _
 rw [h1]
 exact clamp_in hB p
theorem bylaws_at {B : Int} (hB : 0 ≤ B) {L : List Tok} (h : ∀ t ∈ L, 0 ≤ t.p ∧ t.p ≤ B) {p e : Int} (hb : bylawsP L = .bad p e) : 0 ≤ p ∧ p ≤ B :=
 mv_bad hB (by rw [← bylawsP_mv (clamp_id ⟨Int.le_refl _, hB⟩), mv_id h]) hb
theorem all_at {B : Int} (hB : 0 ≤ B) {L : List Tok} (h : ∀ t ∈ L, 0 ≤ t.p ∧ t.p ≤ B) {p e : Int} (hb : allP L = .bad p e) : 0 ≤ p ∧ p ≤ B :=
 mv_bad hB (by rw [← allP_mv (clamp_id ⟨Int.le_refl _, hB⟩), mv_id h]) hb
theorem mv_ok {α : Type} {g : Int → Int} {x y : Rd α} {a : α} {t : List Tok} (hx : y = x.mv g) (h : y = .ok a t) : ∃ u, x = .ok a u ∧ t = u.map (mv g) := by
 cases x with
 | ok b u => rw [h] at hx; injection hx with h1 h2; subst h1; exact ⟨u, rfl, h2⟩
 | bad p e => rw [h] at hx; cases hx
end Go.Proofs.YtedoeogopmenpaaDoor
end
