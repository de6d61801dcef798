/-
  Conditions: none.
-/
import Derived.Test.YtedoeogopmenpaaGreatDoorMax
set_option maxHeartbeats 16000000
set_option maxRecDepth 20000
section
set_option linter.unusedSimpArgs false
set_option linter.unusedVariables false
namespace Go.Proofs.YtedoeogopmenpaaGreatDoor
open Go.RowKit
abbrev nilD : D := .val (.slice none 0 0)
abbrev w_ride : ByteArray := ⟨#[114, 105, 100, 101]⟩
abbrev sumA : List D := [.int 4, .int 0, .int 0, .str ⟨#[]⟩, .list 5 [[.int 2, .int 0, .int 0, .str w_ride, nilD], [.int 0, .int 5, .int 2, .str ⟨#[]⟩, nilD]]]
abbrev mulA : List D := [.int 6, .int 0, .int 0, .str ⟨#[]⟩, .list 5 [[.int 0, .int 3, .int 0, .str ⟨#[]⟩, nilD], sumA]]
theorem sum_wk : WkL sumA (exC e_sum) := wkl_args (wk_two (wkl_args (.nil 5)) (wkl_args (.nil 5)))
theorem mul_wk : WkL mulA (exC e_mul) := wkl_args (wk_two (wkl_args (.nil 5)) sum_wk)
theorem PureC.wk2 {f : FuncId} {x y u v : D} {Post : D → Prop} (h : PureC f [y, v] Post) (hw : Wk x y) (hv : Wk u v) : PureC f [x, u] Post :=
 ⟨h.1, fun w Pr vs h1 h2 h3 h4 => h.2 w Pr vs h1 h2 h3 fun i z d hz hd => by
  match i with
  | 0 => cases hd; exact hw.rep z (h4 0 z x hz rfl)
  | 1 => cases hd; exact hv.rep z (h4 1 z u hz rfl)
  | i + 2 => simp at hd⟩
theorem tame_one : e_one.tame := by
 simp only [e_one, Ex.tame, Ex.tameL]
 repeat' apply And.intro
 all_goals first | trivial | decide
theorem tame_sum : e_sum.tame := by
 simp only [e_sum, Ex.tame, Ex.tameL]
 repeat' apply And.intro
 all_goals first | trivial | decide
theorem tame_mul : e_mul.tame := by
 simp only [e_mul, e_sum, Ex.tame, Ex.tameL]
 repeat' apply And.intro
 all_goals first | trivial | decide
theorem tame_zero : Ex.zero.tame := by
 simp only [Ex.zero, Ex.tame, Ex.tameL]
 repeat' apply And.intro
 all_goals first | trivial | decide
theorem tame_x : x_one.tame := by
 refine ⟨by decide, by decide, fun q hq => ?_, ?_, ?_, ?_, ?_⟩
 ·simp only [x_one, List.mem_singleton] at hq
  subst hq
  refine ⟨by decide, ?_⟩
  simp only [Ex.tame, Ex.tameL]
  repeat' apply And.intro
  all_goals first | trivial | decide
 all_goals
  simp only [x_one, Ex.tame, Ex.tameL]
  repeat' apply And.intro
  all_goals first | trivial | decide
theorem tame_z : By.zero.tame := ⟨by decide, by decide, fun q hq => by simp [By.zero] at hq, tame_zero, tame_zero, tame_zero, tame_zero⟩
abbrev zA : List D := [.str ⟨#[]⟩, nilD, .int 0, .int 0, .int 0, .str ⟨#[]⟩, nilD, .int 0, .int 0, .int 0, .str ⟨#[]⟩, nilD, .int 0, .int 0, .int 0, .str ⟨#[]⟩, nilD, .int 0, .int 0, .int 0, .str ⟨#[]⟩, nilD, .int 0, .int 0, .int 0]
theorem z_wk : WkL zA (byC By.zero) :=
 wk_cons (.same _) (wk_cons (.nil 6) (wk_cons (.same _) (wk_cons (.same _) (wk_cons (.same _) (wk_cons (.same _) (wk_cons (.nil 5) (wk_cons (.same _) (wk_cons (.same _) (wk_cons (.same _) (wk_cons (.same _) (wk_cons (.nil 5) (wk_cons (.same _) (wk_cons (.same _) (wk_cons (.same _) (wk_cons (.same _) (wk_cons (.nil 5) (wk_cons (.same _) (wk_cons (.same _) (wk_cons (.same _) (wk_cons (.same _) (wk_cons (.nil 5) (wk_cons (.same _) (wk_cons (.same _) (wk_cons (.same _) wk_nil))))))))))))))))))))))))
theorem text30_any : PureC 34 [] (· = .str t_text) := by
 refine pure_enter Tryz.func34 rfl (by decide) _ Tryz.ntmps34 (le_ok rfl) (fun w Pr hE => ?_)
 dsimp only [slotsOf, Nat.zero_add, Nat.reduceAdd]
 repeat' (first | refine nx ?_ | (apply qr_assign; refine r_assign ?_))
 refine rt1 ?_
 rfl
theorem print_e {e : Ex} {s : ByteArray} (hr : e.right 12 = true) (hs : e.text 0 = s) (hz : s.size ≤ 4000) : printED e = .tup [.str s, .int 0] := by
 unfold printED fitsD
 rw [if_pos hr, hs, if_neg (by omega)]
theorem small_any : PureC 8 [] (· = .bool true) := by
 have p1 := parseE_any t_one (by decide)
 have p2 := parse_any t_text (by decide)
 have p3 := parse_any t_bad (by decide)
 have p4 := parseE_any t_two (by decide)
 rw [parse_one] at p1
 rw [parse_text] at p2
 rw [parse_bad] at p3
 rw [parse_two] at p4
 have w1 := printE_any e_one tame_one
 rw [print_e right_one print_one (by decide)] at w1
 have w2 := (printE_any e_mul tame_mul).wk (wk_agg mul_wk)
 rw [print_e right_mul print_mul (by decide)] at w2
 have w3 := print_any x_one tame_x
 have hpx : printD x_one = .tup [.str x_one.text, .int 0] := by
  unfold printD fitsD
  rw [if_pos right_x, if_neg (by rw [print_text]; decide)]
 rw [hpx] at w3
 have r1 := byRight_any x_one tame_x
 rw [right_x] at r1
 have r2 := (byRight_any By.zero tame_z).wk (wk_agg z_wk)
 rw [right_z] at r2
 have r3 := (rightExp_any e_sum tame_sum).wk (wk_agg sum_wk)
 rw [right_sum] at r3
 have r4 : PureC 24 [.agg [.int 1, .int 0, .int 0, .str ⟨#[]⟩, nilD]] (· = .bool ((Ex.mk 1 0 0 ⟨#[]⟩ []).right 12)) := (rightExp_any (.mk 1 0 0 ⟨#[]⟩ []) (by simp only [Ex.tame, Ex.tameL]; repeat' apply And.intro; all_goals first | trivial | decide)).wk (wk_agg (wkl_args (.nil 5)))
 rw [right_n] at r4
 have n1 := name_any ⟨#[112, 101, 114, 105, 111, 100]⟩ (by decide)
 rw [name_y] at n1
 have n2 := name_any ⟨#[99, 101, 110, 116, 115]⟩ (by decide)
 rw [name_n] at n2
 have m1 := same_any x_one x_one tame_x tame_x
 rw [(bySame_iff x_one x_one).2 rfl] at m1
 have m2 := (sameE_any e_sum e_sum tame_sum tame_sum).wk2 (wk_agg sum_wk) (wk_agg sum_wk)
 rw [(same_iff e_sum e_sum).2 rfl] at m2
 have hsz : ((x_one.text.size : Nat) : Int) = (t_text.size : Int) + 1 := by rw [print_text]; rfl
 have hq : decide (((x_one.text.size : Nat) : Int) = (t_text.size : Int) + 1) = true := decide_eq_true hsz
 have htt := text30_any
 have htz : t_text.size ≤ 1000 := by decide
 unfold parseED at p1 p4
 unfold parseD at p2 p3
 dsimp only at p1 p2 p3 p4
 generalize x_one = X at *
 generalize e_one = E1 at *
 unfold t_one at p1
 unfold t_bad at p3
 unfold t_two at p4
 generalize t_text = TT at *
 generalize X.text = XT at *
 refine pure_enter Tryz.func8 rfl (by decide) _ Tryz.ntmps8 (le_ok rfl) (fun w Pr hE => ?_)
 dsimp only [slotsOf, Nat.zero_add, Nat.reduceAdd]
 repeat' (first | (apply at_call; refine k_call (p1) hE ?_; rintro _ rfl; clear p1) | (apply at_call; refine k_call (w1) hE ?_; rintro _ rfl; clear w1) | (apply at_call; refine k_call (w2) hE ?_; rintro _ rfl) | (apply at_call; refine k_call (htt) hE ?_; rintro _ rfl) | (apply at_call; refine k_call (p2) hE ?_; rintro _ rfl; clear p2) | (apply at_call; refine k_call (w3) hE ?_; rintro _ rfl) | (apply at_call; refine k_call (p3) hE ?_; rintro _ rfl) | (apply at_call; refine k_call (p4) hE ?_; rintro _ rfl) | (apply at_call; refine k_call (r1) hE ?_; rintro _ rfl; clear r1) | (apply at_call; refine k_call (r2) hE ?_; rintro _ rfl) | (apply at_call; refine k_call (r3) hE ?_; rintro _ rfl; clear r3) | (apply at_call; refine k_call (r4) hE ?_; rintro _ rfl) | (apply at_call; refine k_call (n1) hE ?_; rintro _ rfl; clear n1) | (apply at_call; refine k_call (n2) hE ?_; rintro _ rfl) | (apply at_call; refine k_call (m1) hE ?_; rintro _ rfl) | (apply at_call; refine k_call (m2) hE ?_; rintro _ rfl) | refine nx ?_ | (apply qr_move; refine r_move ?_) | (apply qr_assign; refine r_assign ?_) | (apply at_guard; first | refine g_go ?_ | refine g_nt ?_ | refine g_nf ?_ | refine g_nu ?_ | ((first | refine al_split_t rfl rfl (lt_ok rfl) (fun hb => ?_) (fun hb => ?_) | refine al_split_f rfl rfl (lt_ok rfl) (fun hb => ?_) (fun hb => ?_)) <;> ((try have hq := dX hb); (try (exfalso; omega))))) | (apply qr_pick; refine r_pick ?_) | (apply qr_eql; refine r_eql ?_) | (apply qr_add; refine r_add ?_) | (apply qr_not; refine r_not ?_) | (apply qr_len; refine r_len ?_) | (apply qr_extract; refine r_extract ?_) | (apply qr_load; refine r_load ?_) | (apply qr_alloc; refine r_alloc ?_) | (apply qr_store; refine r_store ?_) | (apply qr_build; refine r_build ?_) | (apply qr_lits; refine r_lits ?_))
 refine rt1 ?_
 rfl
end Go.Proofs.YtedoeogopmenpaaGreatDoor
end
section
namespace Go.Proofs.YtedoeogopmenpaaGreatDoor
open Go.RowKit
theorem zero_size : ByteArray.size ⟨#[]⟩ ≤ 100000 := by decide
theorem two_tame {op : Int} {a b : Ex} (ha : a.tame) (hb : b.tame) : (two op a b).tame := ⟨zero_size, (by show 2 ≤ 100000; omega), ha, hb, trivial⟩
theorem leaf_tame {op : Int} {s : ByteArray} (h : s.size ≤ 100000) : (leafE op s).tame := ⟨h, (by show 0 ≤ 100000; omega), trivial⟩
theorem num_tame (n u : Int) : (numE n u).tame := ⟨zero_size, (by show 0 ≤ 100000; omega), trivial⟩
theorem name_tame {l t : List Tok} {s : ByteArray} (h : nameP nameV l = .ok s t) (hx : Texts l) : s.size ≤ 100000 := by
 obtain ⟨_, _, rfl, _⟩ := nameP_ok h
 exact hx.nxt
theorem Der.tame {f o : Nat} {l t : List Tok} {e : Ex} (h : Der f l e o t) : Texts l → e.tame := by
 induction h with
 | num hk => exact fun _ => num_tame _ _
 | yes h => exact fun _ => num_tame _ _
 | no h => exact fun _ => num_tame _ _
 | word hw ho hn => exact fun hx => leaf_tame (name_tame hn (hx.suf (suf_is hw)))
 | name hn => exact fun hx => leaf_tame (name_tame hn hx)
 | call hw ho h1 ha h2 hb h3 iha ihb =>
  intro hx
  have x1 := (hx.suf (suf_is hw)).suf (suf_is h1)
  have x2 := (x1.suf ha.suf).suf (suf_is h2)
  exact two_tame (iha x1) (ihb x2)
 | paren h1 he h2 ih => exact fun hx => ih (hx.suf (suf_is h1))
 | iff h1 ha h2 hb h3 hc iha ihb ihc =>
  intro hx
  have x1 := hx.suf (suf_is h1)
  have x2 := (x1.suf ha.suf).suf (suf_is h2)
  have x3 := (x2.suf hb.suf).suf (suf_is h3)
  exact ⟨zero_size, (by show 3 ≤ 100000; omega), iha x1, ihb x2, ihc x3, trivial⟩
 | nott hf h ha ih => exact fun hx => ⟨zero_size, (by show 1 ≤ 100000; omega), ih (hx.suf (suf_is h)), trivial⟩
 | op ha hs hf hg h4 hb iha ihb =>
  intro hx
  obtain ⟨w, hw⟩ := sym_is hs
  exact two_tame (iha hx) (ihb ((hx.suf ha.suf).suf (suf_is hw)))
theorem zero_tame : Ex.zero.tame := ⟨zero_size, (by show 0 ≤ 100000; omega), trivial⟩
theorem parseEV_tame (s : ByteArray) : (parseEV s).1.tame := by
 unfold parseEV
 rcases hL : lexV s with ⟨L, p, e⟩
 dsimp only
 split
 ·rename_i he
  subst he
  obtain ⟨_, _, _, _, _, hx, _⟩ := lex_ready hL
  cases hb : allP L with
  | ok x t =>
   unfold allP at hb
   obtain ⟨e, u, h1, h2⟩ := then_less hb
   obtain ⟨o, hd⟩ := readE_der h1
   split at h2
   ·split at h2
    ·cases h2
     exact hd.tame hx
    ·cases h2
   ·cases h2
  | bad p c => exact zero_tame
 ·exact zero_tame
end Go.Proofs.YtedoeogopmenpaaGreatDoor
end
section
namespace Go.Proofs.YtedoeogopmenpaaGreatDoor
theorem isT_cons (t : Tok) (l : List Tok) (s : ByteArray) : isT (t :: l) s = (decide (t.k ≠ 3) && decide (t.s = s)) := rfl
theorem isT_is (t : Tok) (l : List Tok) (hk : t.k ≠ 3) : isT (t :: l) t.s = true := by simp [isT_cons, hk]
theorem op_form {op : Int} {t : Tok} {g : Nat} (h : opInfo op = some (t, g)) : formV op = g ∧ 1 ≤ g ∧ g ≤ 6 ∧ g ≠ 3 := by
 rcases opInfo_cases h with ⟨rfl, rfl, rfl⟩ | ⟨rfl, rfl, rfl⟩ | ⟨rfl, rfl, rfl⟩ | ⟨rfl, rfl, rfl⟩ | ⟨rfl, rfl, rfl⟩ | ⟨rfl, rfl, rfl⟩ | ⟨rfl, rfl, rfl⟩ | ⟨rfl, rfl, rfl⟩ <;> decide
theorem form_le (op : Int) : formV op ≤ 7 := by
 unfold formV
 split
 ·omega
 ·split
  ·omega
  ·split
   ·rename_i h
    have := op_form h
    omega
   ·omega
theorem ploop_stop {rec : Nat → List Tok → Rd Ex} {sym : List Tok → Option (Int × Nat)} {form k own : Nat} {e : Ex} {l : List Tok} (h : ∀ op g, sym l = some (op, g) → g < form ∨ own < g ∨ (own = 4 ∧ g = 4)) : ploop sym rec form k own e l = .ok e l := by
 cases k with
 | zero => rfl
 | succ k =>
  simp only [ploop]
  cases hs : sym l with
  | none => rfl
  | some q =>
   obtain ⟨op, g⟩ := q
   simp only
   rw [if_pos (h op g hs)]
theorem rd_step (n f : Nat) (l : List Tok) : rdE (n + 1) f l = (prfx (primP nameV) ifP notP (rdE n) f l).then fun x t => ploop symP (rdE n) f (t.length + 1) x.2 x.1 t := rfl
theorem rd_prim {n f : Nat} {l t : List Tok} {e : Ex} (h1 : isT l w_if = false) (h2 : isT l w_not = false) (hp : primP nameV (rdE n) l = .ok e t) : rdE (n + 1) f l = ploop symP (rdE n) f (t.length + 1) 7 e t := by
 rw [rd_step]
 have : prfx (primP nameV) ifP notP (rdE n) f l = .ok (e, 7) t := by
  unfold prfx ifP notP
  simp only [h1, h2, Bool.false_eq_true, if_false, ite_self, hp, then_ok]
 rw [this, then_ok]
def ownV (e : Ex) (f : Nat) : Nat := if formV e.op < f then 7 else formV e.op
structure Behind (own : Nat) (r : List Tok) : Prop where
 sym : ∀ op g, symP r = some (op, g) → g ≤ own
 cents : isT r w_cents = false
 minutes : isT r w_minutes = false
structure Halt (f : Nat) (r : List Tok) : Prop where
 sym : ∀ op g, symP r = some (op, g) → g < f
 cents : isT r w_cents = false
 minutes : isT r w_minutes = false
def Body (e : Ex) : Prop := ∀ n f r, f ≤ formV e.op → Behind (formV e.op) r → (e.toks itoaB 0).length ≤ n → rdE (n + 1) f (e.toks itoaB 0 ++ r) = ploop symP (rdE n) f (r.length + 1) (formV e.op) e r
theorem own_le (e : Ex) {f : Nat} (h : f ≤ 7) : f ≤ ownV e f ∧ ownV e f ≤ 7 := by
 unfold ownV
 have := form_le e.op
 split <;> omega
theorem stop_closer {f : Nat} {r : List Tok} (h : symP r = none) (h1 : isT r w_cents = false) (h2 : isT r w_minutes = false) : Halt f r := ⟨fun op g hs => (by rw [h] at hs; cases hs), h1, h2⟩
theorem rp_stop (f : Nat) (r : List Tok) : Halt f (signT w_rp :: r) := stop_closer rfl rfl rfl
theorem want_is {t : Tok} {r : List Tok} (hk : t.k ≠ 3) : want (t :: r) t.s = .ok () r := by
 unfold want
 rw [isT_is t r hk]
 rfl
theorem Body.read0 {e : Ex} (h : Body e) {n : Nat} {r : List Tok} (hs : Halt 0 r) (hn : (e.toks itoaB 0).length < n) : rdE n 0 (e.toks itoaB 0 ++ r) = .ok e r := by
 obtain ⟨n, rfl⟩ : ∃ m, n = m + 1 := ⟨n - 1, by omega⟩
 rw [h n 0 r (Nat.zero_le _) ⟨fun op g hg => by have := hs.sym op g hg; omega, hs.cents, hs.minutes⟩ (by omega)]
 exact ploop_stop fun op g hg => .inl (hs.sym op g hg)
theorem Body.whole {e : Ex} (h : Body e) {n f f' : Nat} {r : List Tok} (h1 : f ≤ f') (h2 : f' ≤ 7) (ha : Behind (ownV e f') r) (hn : (e.toks itoaB f').length ≤ n) : rdE (n + 1) f (e.toks itoaB f' ++ r) = ploop symP (rdE n) f (r.length + 1) (ownV e f') e r := by
 by_cases hf : formV e.op < f'
 ·have ho : ownV e f' = 7 := by unfold ownV; rw [if_pos hf]
  rw [toks_par itoaB hf] at hn ⊢
  simp only [List.length_cons, List.length_append, List.length_nil] at hn
  rw [ho]
  refine rd_prim rfl rfl ?_
  have hr := h.read0 (n := n) (rp_stop 0 r) (by omega)
  have e1 : signT w_lp :: (e.toks itoaB 0 ++ [signT w_rp]) ++ r = signT w_lp :: (e.toks itoaB 0 ++ signT w_rp :: r) := by simp
  rw [e1]
  have e2 : primP nameV (rdE n) (signT w_lp :: (e.toks itoaB 0 ++ signT w_rp :: r)) = (rdE n 0 (e.toks itoaB 0 ++ signT w_rp :: r)).then fun e l => (want l w_rp).then fun _ l => .ok e l := rfl
  rw [e2, hr, then_ok, want_is (t := signT w_rp) (by decide), then_ok]
 ·have ho : ownV e f' = formV e.op := by unfold ownV; rw [if_neg hf]
  rw [ho] at ha ⊢
  rw [toks_in itoaB (by omega)] at hn ⊢
  exact h n f r (by omega) ha hn
theorem Body.read {e : Ex} (h : Body e) {n f : Nat} {r : List Tok} (h2 : f ≤ 7) (hs : Halt f r) (hn : (e.toks itoaB f).length < n) : rdE n f (e.toks itoaB f ++ r) = .ok e r := by
 obtain ⟨n, rfl⟩ : ∃ m, n = m + 1 := ⟨n - 1, by omega⟩
 have ho := own_le e h2
 rw [h.whole (Nat.le_refl _) h2 ⟨fun op g hg => by have := hs.sym op g hg; omega, hs.cents, hs.minutes⟩ (by omega)]
 exact ploop_stop fun op g hg => .inl (hs.sym op g hg)
theorem dec_first {u : Nat} : ∃ c r, Lib.decDigits u = c :: r ∧ 48 ≤ c.toNat ∧ c.toNat ≤ 57 := by
 induction u using Nat.strongRecOn with
 | _ u ih =>
  by_cases h : u < 10
  ·refine ⟨_, [], dec_one h, ?_⟩
   rw [dig_byte h]
   omega
  ·obtain ⟨c, r, h1, h2⟩ := ih (u / 10) (by omega)
   exact ⟨c, r ++ [UInt8.ofNat (48 + u % 10)], by rw [dec_more h, h1]; rfl, h2⟩
end Go.Proofs.YtedoeogopmenpaaGreatDoor
end
section
namespace Go.Proofs.YtedoeogopmenpaaGreatDoor
theorem ext_all (s : ByteArray) : s.extract 0 s.size = s := by
 apply ba_ext
 simp [ByteArray.data_extract]
theorem tk_word {s : ByteArray} (h : wordB s = true) : Tk (wordT s) := by
 simp only [wordB, Bool.and_eq_true, Bool.not_eq_true', decide_eq_false_iff_not, decide_eq_true_eq] at h
 obtain ⟨⟨⟨h1, h2⟩, h3⟩, h4⟩ := h
 have hs := nonempty h1
 have := token_word (s := s) (p := 0) (k := s.size) h2 hs (Nat.le_refl _) (by rw [ext_all, h4]; rfl)
 rw [if_pos (by omega), ext_all] at this
 exact ⟨this, hs, (by decide : ¬ (0 : Int) = 3)⟩
theorem tk_sign {s : ByteArray} (hl : letterB (bAt s 0) = false) (hd : digitB (bAt s 0) = false) (h0 : 0 < s.size) (h : signTo s 0 = s.size) : Tk (signT s) := by
 have := token_sign (s := s) (p := 0) hl hd h0
 rw [h, if_neg (by omega), Int.toNat_natCast, Nat.zero_add, ext_all] at this
 exact ⟨this, h0, (by decide : ¬ (2 : Int) = 3)⟩
theorem tk_name {s : ByteArray} (h : nameV s = true) : Tk (wordT s) := by
 unfold nameV at h
 rw [Bool.and_eq_true] at h
 exact tk_word h.1
theorem dec_digits {u : Nat} : ∀ c ∈ Lib.decDigits u, digitB c = true := by
 have hd : ∀ v : Nat, v < 10 → digitB (UInt8.ofNat (48 + v)) = true := fun v hv => by
  simp only [digitB, Bool.and_eq_true, decide_eq_true_eq, dig_byte hv]
  omega
 induction u using Nat.strongRecOn with
 | _ u ih =>
  by_cases h : u < 10
  ·rw [dec_one h]
   intro c hc
   obtain rfl := List.mem_singleton.1 hc
   exact hd u h
  ·rw [dec_more h]
   intro c hc
   rcases List.mem_append.1 hc with hc | hc
   ·exact ih (u / 10) (by omega) c hc
   ·obtain rfl := List.mem_singleton.1 hc
    exact hd _ (by omega)
theorem dec_head {u : Nat} (hu : 0 < u) : ∃ c r, Lib.decDigits u = c :: r ∧ c.toNat ≠ 48 := by
 induction u using Nat.strongRecOn with
 | _ u ih =>
  by_cases h : u < 10
  ·refine ⟨_, [], dec_one h, ?_⟩
   rw [dig_byte h]
   omega
  ·obtain ⟨c, r, h1, h2⟩ := ih (u / 10) (by omega) (by omega)
   exact ⟨c, r ++ [UInt8.ofNat (48 + u % 10)], by rw [dec_more h, h1]; rfl, h2⟩
theorem bAt_B {l : List UInt8} {j : Nat} (h : j < l.length) : bAt (B l) j = l[j] := by rw [bAt_eq _ _ (by simpa using h)]
theorem numTo_same {s t : ByteArray} : ∀ k, (∀ j, j < k → bAt s j = bAt t j) → numTo s k = numTo t k
 | 0, _ => rfl
 | k + 1, h => by
  simp only [numTo]
  rw [numTo_same k fun j hj => h j (by omega), h k (by omega)]
theorem numTo_dec (u : Nat) : numTo (B (Lib.decDigits u)) (Lib.decDigits u).length = u := by
 induction u using Nat.strongRecOn with
 | _ u ih =>
  by_cases h : u < 10
  ·rw [dec_one h]
   simp only [List.length_singleton, numTo]
   rw [bAt_B (by simp)]
   simp only [List.getElem_cons_zero, dig_byte h]
   omega
  ·have hi := ih (u / 10) (by omega)
   rw [dec_more h, List.length_append, List.length_singleton]
   simp only [numTo]
   rw [numTo_same (t := B (Lib.decDigits (u / 10))) _ (fun j hj => by rw [bAt_B (by simp; omega), bAt_B hj, List.getElem_append_left hj]), hi, bAt_B (by simp)]
   simp only [List.getElem_append_right (Nat.le_refl _), Nat.sub_self, List.getElem_cons_zero, dig_byte (show u % 10 < 10 by omega)]
   omega
theorem tk_num {n : Int} (h0 : 0 ≤ n) (h1 : n ≤ 1000000000000000) : Tk ⟨1, itoaB n, n, 0⟩ := by
 obtain ⟨u, rfl⟩ : ∃ u : Nat, n = u := ⟨n.toNat, by omega⟩
 rw [itoaB_pos h0, Int.toNat_natCast]
 have hz : (B (Lib.decDigits u)).size = (Lib.decDigits u).length := List.size_toArray
 have hall : ∀ j, j < (B (Lib.decDigits u)).size → digitB (bAt (B (Lib.decDigits u)) j) = true := fun j hj => by
  rw [bAt_B (by omega)]
  exact dec_digits _ (List.getElem_mem _)
 have hn := numTo_dec u
 rw [← hz] at hn
 obtain ⟨c, r, hc, _⟩ := dec_first (u := u)
 have hpos : 0 < (B (Lib.decDigits u)).size := by rw [hz, hc]; simp
 have hd := hall 0 hpos
 have hl : letterB (bAt (B (Lib.decDigits u)) 0) = false := by
  have := digit_bd hd
  simp only [letterB, Bool.and_eq_false_iff, decide_eq_false_iff_not]
  omega
 have hok : numOk (B (Lib.decDigits u)) = true := by
  refine numOk_yes hpos (pre_all hall) ?_ (by rw [hn]; exact h1)
  by_cases h : u < 10
  ·left
   rw [hz, dec_one h]
   rfl
  ·right
   obtain ⟨d, q, hq, hne⟩ := dec_head (u := u) (by omega)
   have : bAt (B (Lib.decDigits u)) 0 = d := by
    rw [bAt_B (by rw [hq]; simp)]
    simp only [hq, List.getElem_cons_zero]
   rw [this]
   exact hne
 have := token_num (s := B (Lib.decDigits u)) (p := 0) (k := (B (Lib.decDigits u)).size) hl hd hpos (Nat.le_refl _) (by rw [ext_all, pre_all hall]; rfl)
 rw [ext_all, hok, if_pos rfl, hn] at this
 exact ⟨this, hpos, (by decide : ¬ (1 : Int) = 3)⟩
inductive LaidL : List UInt8 → List Tok → Prop where
 | nil : LaidL [] []
 | one {t : Tok} (h : Tk t) : LaidL t.s.data.toList [t]
 | cons {t : Tok} {b : UInt8} {bs : List UInt8} {r : List Tok} (h : Tk t) (hb : isBlank b = true) (hr : LaidL bs r) : LaidL (t.s.data.toList ++ b :: bs) (t :: r)
inductive LaidC : List UInt8 → List Tok → Prop where
 | nil : LaidC [] []
 | cons {t : Tok} {b : UInt8} {bs : List UInt8} {r : List Tok} (h : Tk t) (hb : isBlank b = true) (hr : LaidC bs r) : LaidC (t.s.data.toList ++ b :: bs) (t :: r)
theorem LaidC.laid {a : List UInt8} {l : List Tok} (h : LaidC a l) : LaidL a l := by
 induction h with
 | nil => exact .nil
 | cons h hb hr ih => exact .cons h hb ih
theorem txt_laid : ∀ {l : List Tok}, l ≠ [] → (∀ t ∈ l, Tk t) → LaidL (txt l).data.toList l
 | [], h, _ => absurd rfl h
 | [t], _, h => by rw [txt_one]; exact .one (h t (by simp))
 | t :: u :: r, _, h => by
  rw [txt_cons t (by simp)]
  have e : (t.s ++ (blank1 ++ txt (u :: r))).data.toList = t.s.data.toList ++ 32 :: (txt (u :: r)).data.toList := by
   simp [ByteArray.data_append, blank1]
  rw [e]
  exact .cons (h t (by simp)) rfl (txt_laid (by simp) fun x hx => h x (List.mem_cons_of_mem _ hx))
def spB (c : UInt8) : UInt8 := if c = 32 then 10 else c
theorem tok_in {t : Tok} (ht : Tk t) (a : ByteArray) (c : List UInt8) (hc : ∀ b r, c = b :: r → isBlank b = true) : skip (a ++ B (t.s.data.toList ++ c)) a.size = a.size ∧ tokenV (a ++ B (t.s.data.toList ++ c)) a.size = ({ t with p := (a.size : Int) }, 0) := by
 have hs := ht.2.1
 have hz : (B (t.s.data.toList ++ c)).size = t.s.size + c.length := by
  show (t.s.data.toList ++ c).toArray.size = _
  simp
 have hX : (a ++ B (t.s.data.toList ++ c)).size = a.size + t.s.size + c.length := by rw [ByteArray.size_append, hz]; omega
 have hby : ∀ j, j < t.s.size → bAt (a ++ B (t.s.data.toList ++ c)) (a.size + j) = bAt t.s j := fun j hj => by
  rw [app_right (by omega), bAt_B (by simp; omega), bAt_eq _ _ (by simpa using hj), List.getElem_append_left (by simpa using hj)]
 have h1 : skip (a ++ B (t.s.data.toList ++ c)) a.size = a.size := skip_stop (by omega) (by rw [← Nat.add_zero a.size, hby 0 hs]; exact tk_not_blank ht)
 refine ⟨h1, tok_shift (x := { t with p := 0 }) hs ht.1 ⟨by simp, by simp only; omega, fun j hj => by rw [Nat.zero_add]; exact hby j hj⟩ (fun h => ?_)⟩
 simp only at h ⊢
 cases c with
 | nil => rw [List.length_nil] at hX; omega
 | cons b r =>
  left
  have : bAt (a ++ B (t.s.data.toList ++ b :: r)) (a.size + t.s.size) = b := by
   rw [app_right (by rw [hz]; simp), bAt_B (by simp), List.getElem_append_right (by simp)]
   simp
  rw [this]
  exact hc b r rfl
theorem laid_ok {bs : List UInt8} {l : List Tok} (h : LaidL bs l) (a : ByteArray) : LexOk (a ++ B bs) a.size (lay a.size l ++ [endTok (a ++ B bs).size]) := by
 induction h generalizing a with
 | nil =>
  have e : a ++ B [] = a := by
   apply ba_ext
   simp [ByteArray.data_append]
  rw [e]
  exact .stop _ (Nat.le_refl _) (skip_end a)
 | @one t h =>
  obtain ⟨h1, h2⟩ := tok_in h a [] (by simp)
  rw [List.append_nil] at h1 h2
  have hz : (a ++ B t.s.data.toList).size = a.size + t.s.size := by
   rw [ByteArray.size_append]
  have := h.2.1
  refine .tok _ _ _ (by omega) (by omega) (by rw [h1]; exact h2) ?_
  rw [h1]
  simp only [lay]
  rw [← hz]
  exact .stop _ (Nat.le_refl _) (skip_end _)
 | @cons t b bs r h hb hr ih =>
  obtain ⟨h1, h2⟩ := tok_in h a (b :: bs) (fun _ _ e => by cases e; exact hb)
  have h3 := ih (a ++ t.s ++ ⟨#[b]⟩)
  have e : a ++ t.s ++ ⟨#[b]⟩ ++ B bs = a ++ B (t.s.data.toList ++ b :: bs) := by
   apply ba_ext
   simp [ByteArray.data_append]
  rw [e] at h3
  have e3 : (a ++ t.s ++ ⟨#[b]⟩).size = a.size + t.s.size + 1 := by
   simp only [ByteArray.size_append]
   rfl
  rw [e3] at h3
  have hz : (a ++ B (t.s.data.toList ++ b :: bs)).size = a.size + t.s.size + 1 + bs.length := by
   rw [ByteArray.size_append]
   show a.size + (t.s.data.toList ++ b :: bs).toArray.size = _
   simp
   omega
  have hbl : bAt (a ++ B (t.s.data.toList ++ b :: bs)) (a.size + t.s.size) = b := by
   rw [app_right (by show t.s.size < (t.s.data.toList ++ b :: bs).toArray.size; simp), bAt_B (by simp), List.getElem_append_right (by simp)]
   simp
  have := h.2.1
  refine .tok _ _ _ (by omega) (by omega) (by rw [h1]; exact h2) ?_
  rw [h1]
  refine h3.from (by simp only; omega) ?_
  exact skip_more (by simp only; omega) (by simp only; rw [hbl]; exact hb)
theorem laid_lex {bs : List UInt8} {l : List Tok} (h : LaidL bs l) (hs : bs.length ≤ 4000) : lexV (B bs) = (lay 0 l ++ [endTok bs.length], 0, 0) := by
 have h1 := laid_ok h ⟨#[]⟩
 have e : (⟨#[]⟩ : ByteArray) ++ B bs = B bs := by
  apply ba_ext
  simp [ByteArray.data_append]
 have hz : (B bs).size = bs.length := List.size_toArray
 rw [e, hz] at h1
 exact lexV_ok (by omega) h1
end Go.Proofs.YtedoeogopmenpaaGreatDoor
end
section
namespace Go.Proofs.YtedoeogopmenpaaGreatDoor
def mv (g : Int → Int) (t : Tok) : Tok := { t with p := g t.p }
def Rd.mv {α : Type} (g : Int → Int) : Rd α → Rd α
 | .ok x r => .ok x (r.map (Go.Proofs.YtedoeogopmenpaaGreatDoor.mv g))
 | .bad p e => .bad (g p) e
section
variable {α β : Type} {g : Int → Int}
section
variable {rec : Nat → List Tok → Rd Ex}
end
end
def clampI (B : Int) (p : Int) : Int := if p < 0 then 0 else if B < p then B else p
end Go.Proofs.YtedoeogopmenpaaGreatDoor
end
section
namespace Go.Proofs.YtedoeogopmenpaaGreatDoor
def Tz (t : Tok) : Prop := Tk t ∧ t.p = 0
theorem kw_tk {w : ByteArray} (h : w ∈ [w_if, w_then, w_else, w_not, w_or, w_and, w_cents, w_minutes, w_true, w_false, w_trip, w_member, w_min, w_max, w_let, w_bylaws, w_admit, w_fare, w_late, w_noshow, w_quota, w_share, w_change]) : Tz (wordT w) := by
 refine ⟨tk_word ?_, rfl⟩
 simp only [List.mem_cons, List.not_mem_nil, or_false] at h
 rcases h with rfl | rfl | rfl | rfl | rfl | rfl | rfl | rfl | rfl | rfl | rfl | rfl | rfl | rfl | rfl | rfl | rfl | rfl | rfl | rfl | rfl | rfl | rfl <;> decide
theorem sg_tk {w : ByteArray} (h : w ∈ [w_eq, w_lt, w_plus, w_minus, w_times, w_by, w_lp, w_rp, w_comma, w_semi, w_is]) : Tz (signT w) := by
 simp only [List.mem_cons, List.not_mem_nil, or_false] at h
 rcases h with rfl | rfl | rfl | rfl | rfl | rfl | rfl | rfl | rfl | rfl | rfl <;> exact ⟨tk_sign (by decide) (by decide) (by decide) (by decide), rfl⟩
theorem op_tk {op : Int} {t : Tok} {g : Nat} (h : opInfo op = some (t, g)) : Tz t := by
 rcases opInfo_cases h with ⟨rfl, rfl, rfl⟩ | ⟨rfl, rfl, rfl⟩ | ⟨rfl, rfl, rfl⟩ | ⟨rfl, rfl, rfl⟩ | ⟨rfl, rfl, rfl⟩ | ⟨rfl, rfl, rfl⟩ | ⟨rfl, rfl, rfl⟩ | ⟨rfl, rfl, rfl⟩ <;> first | exact kw_tk (by simp) | exact sg_tk (by simp)
theorem num_tks {n u : Int} (h : numRight n u ⟨#[]⟩ = true) : ∀ t ∈ numToks itoaB n u, Tz t := by
 unfold numRight at h
 simp only [Bool.and_eq_true, decide_eq_true_eq] at h
 obtain ⟨⟨_, hu0, hu3⟩, hn0, hn1⟩ := h
 unfold numToks
 by_cases hu : u = 3
 ·rw [if_pos hu]
  split <;> (intro t ht; obtain rfl := List.mem_singleton.1 ht; exact kw_tk (by simp))
 ·rw [if_neg hu] at hn1 ⊢
  have hk : Tz ⟨1, itoaB n, n, 0⟩ := ⟨tk_num hn0 hn1, rfl⟩
  split
  ·intro t ht
   rcases List.mem_cons.1 ht with rfl | ht
   ·exact hk
   ·obtain rfl := List.mem_singleton.1 ht
    exact kw_tk (by simp)
  ·split
   ·intro t ht
    rcases List.mem_cons.1 ht with rfl | ht
    ·exact hk
    ·obtain rfl := List.mem_singleton.1 ht
     exact kw_tk (by simp)
   ·intro t ht
    obtain rfl := List.mem_singleton.1 ht
    exact hk
theorem all_app {α : Type} {P : α → Prop} {a b : List α} (ha : ∀ x ∈ a, P x) (hb : ∀ x ∈ b, P x) : ∀ x ∈ a ++ b, P x := fun x hx => (List.mem_append.1 hx).elim (ha x) (hb x)
theorem all_cons {α : Type} {P : α → Prop} {a : α} {b : List α} (ha : P a) (hb : ∀ x ∈ b, P x) : ∀ x ∈ a :: b, P x := fun x hx => (List.mem_cons.1 hx).elim (fun e => e ▸ ha) (hb x)
theorem all_nil {α : Type} {P : α → Prop} : ∀ x ∈ ([] : List α), P x := fun x hx => absurd hx (List.not_mem_nil)
theorem toks_tk : ∀ (d : Nat) (e : Ex), e.right d = true → ∀ f, f ≤ 7 → ∀ t ∈ e.toks itoaB f, Tz t
 | 0, e, h => by rw [right_zero] at h; cases h
 | d + 1, e, h => by
  have ih := toks_tk d
  have h0 : ∀ t ∈ e.toks itoaB 0, Tz t := by
   rcases right_shape h with ⟨n, u, rfl, h'⟩ | ⟨op, s, ho, rfl, h'⟩ | ⟨x, rfl, hx⟩ | ⟨x, y, z, rfl, hx, hy, hz⟩ | ⟨op, x, y, ho, rfl, hx, hy⟩ | ⟨op, x, y, t, g, ho, rfl, hx, hy⟩
   ·rw [num_toks _ _ _ _ _ (by omega)]
    exact num_tks h'
   ·rw [leaf_toks _ _ _ _ ho _ (by omega)]
    split
    ·exact all_cons ⟨tk_name h', rfl⟩ all_nil
    ·refine all_cons ?_ (all_cons ⟨tk_name h', rfl⟩ all_nil)
     split <;> exact kw_tk (by simp)
   ·rw [not_toks]
    exact all_cons (kw_tk (by simp)) (ih x hx 3 (by omega))
   ·rw [if_toks]
    exact all_cons (kw_tk (by simp)) (all_app (ih x hx 0 (by omega)) (all_cons (kw_tk (by simp)) (all_app (ih y hy 0 (by omega)) (all_cons (kw_tk (by simp)) (ih z hz 0 (by omega))))))
   ·rw [call_toks ho]
    refine all_cons ?_ (all_cons (sg_tk (by simp)) (all_app (ih x hx 0 (by omega)) (all_cons (sg_tk (by simp)) (all_app (ih y hy 0 (by omega)) (all_cons (sg_tk (by simp)) all_nil)))))
    split <;> exact kw_tk (by simp)
   ·obtain ⟨_, _, g6, _⟩ := op_form ho
    rw [op_toks ho]
    exact all_app (ih x hx _ (by unfold leftV; split <;> omega)) (all_cons (op_tk ho) (ih y hy _ (by omega)))
  intro f hf
  rw [toks_of]
  split
  ·exact all_cons (sg_tk (by simp)) (all_app h0 (all_cons (sg_tk (by simp)) all_nil))
  ·exact h0
abbrev numT (n : Int) : Tok := ⟨1, itoaB n, n, 0⟩
def letT (q : ByteArray × Ex) : List Tok := wordT w_let :: wordT q.1 :: signT w_is :: q.2.toks itoaB 0
def partT (w : ByteArray) (e : Ex) : List Tok := wordT w :: e.toks itoaB 0
def lastT (w : ByteArray) (n : Int) : List Tok := [wordT w, numT n]
def By.tl (x : By) : List (List Tok) := [[wordT w_bylaws, wordT x.name]] ++ x.lets.map letT ++ [partT w_admit x.admit] ++ [partT w_fare x.fare] ++ [partT w_late x.late] ++ [partT w_noshow x.noshow] ++ [lastT w_quota x.quota] ++ [lastT w_share x.share] ++ [lastT w_change x.change]
def flatT (ls : List (List Tok)) : List Tok := (ls.map fun l => l ++ [signT w_semi]).flatten
def By.toks (x : By) : List Tok := flatT x.tl
def catT (ls : List (List Tok)) : List UInt8 := (ls.map fun l => (txt l ++ ⟨#[32, 59, 10]⟩).data.toList).flatten
theorem lay_mv : ∀ (q : Nat) (l : List Tok), (∀ t ∈ l, t.p = 0) → (lay q l).map (mv fun _ => 0) = l
 | _, [], _ => rfl
 | q, t :: r, h => by
  rw [lay, List.map_cons, lay_mv _ r fun x hx => h x (List.mem_cons_of_mem _ hx)]
  have := h t (by simp)
  obtain ⟨k, s, n, p⟩ := t
  simp only at this
  subst this
  rfl
end Go.Proofs.YtedoeogopmenpaaGreatDoor
end
section
namespace Go.Proofs.YtedoeogopmenpaaGreatDoor
def NZ {α : Type} (x : Rd α) : Prop := ∀ p e, x = .bad p e → e ≠ 0
theorem nz_ok {α : Type} {a : α} {r : List Tok} : NZ (.ok a r) := fun p e h => by cases h
theorem nz_bad {α : Type} {p e : Int} (h : e ≠ 0) : NZ (.bad p e : Rd α) := fun q f k => by cases k; exact h
theorem nz_then {α β : Type} {x : Rd α} {f : α → List Tok → Rd β} (hx : NZ x) (hf : ∀ a r, x = .ok a r → NZ (f a r)) : NZ (x.then f) := by
 cases x with
 | ok a r => exact hf a r rfl
 | bad p e => exact fun q c h => by cases h; exact hx p e rfl
theorem nz_ite {α : Type} {c : Prop} [Decidable c] {a b : Rd α} (ha : c → NZ a) (hb : ¬ c → NZ b) : NZ (if c then a else b) := by
 split
 ·exact ha ‹_›
 ·exact hb ‹_›
theorem nz_want {l : List Tok} {s : ByteArray} : NZ (want l s) := nz_ite (fun _ => nz_ok) (fun _ => nz_bad (by decide))
theorem nz_name {l : List Tok} : NZ (nameP nameV l) := nz_ite (fun _ => nz_ok) (fun _ => nz_bad (by decide))
section
variable {rec : Nat → List Tok → Rd Ex} (hr : ∀ f l, Ends l → NZ (rec f l)) (hs : ∀ f l e t, rec f l = .ok e t → Suf l t)
include hr hs
theorem nz_both {op : Int} {l : List Tok} (h : Ends l) : NZ (both rec op l) := by
 unfold both
 refine nz_then nz_want fun _ u h1 => ?_
 have e1 := h.suf (suf_want h1)
 refine nz_then (hr 0 u e1) fun a v h2 => nz_then nz_want fun _ z h3 => ?_
 have e2 := (e1.suf (hs _ _ _ _ h2)).suf (suf_want h3)
 exact nz_then (hr 0 z e2) fun b _ _ => nz_then nz_want fun _ _ _ => nz_ok
theorem nz_prim {l : List Tok} (h : Ends l) : NZ (primP nameV rec l) := by
 unfold primP
 refine nz_ite (fun _ => nz_ok) fun _ => nz_ite (fun _ => nz_ok) fun _ => nz_ite (fun _ => nz_ok) fun _ => nz_ite (fun _ => nz_then nz_name fun _ _ _ => nz_ok) fun _ => nz_ite (fun _ => nz_then nz_name fun _ _ _ => nz_ok) fun _ => nz_ite (fun hT => nz_both hr hs (h.suf (suf_is hT))) fun _ => nz_ite (fun hT => nz_both hr hs (h.suf (suf_is hT))) fun _ => nz_ite (fun hT => nz_then (hr 0 _ (h.suf (suf_is hT))) fun _ _ _ => nz_then nz_want fun _ _ _ => nz_ok) fun _ => nz_then nz_name fun _ _ _ => nz_ok
theorem nz_prfx {f : Nat} {l : List Tok} (h : Ends l) : NZ (prfx (primP nameV) ifP notP rec f l) := by
 unfold prfx
 split
 ·rename_i r hi
  refine nz_then ?_ fun _ _ _ => nz_ok
  split at hi
  ·unfold ifP at hi
   split at hi
   ·rename_i hT
    injection hi with hi
    subst hi
    have e0 := h.suf (suf_is hT)
    refine nz_then (hr 0 _ e0) fun a u h1 => nz_then nz_want fun _ v h2 => ?_
    have e1 := (e0.suf (hs _ _ _ _ h1)).suf (suf_want h2)
    refine nz_then (hr 0 _ e1) fun b z h3 => nz_then nz_want fun _ y h4 => ?_
    exact nz_then (hr 0 _ ((e1.suf (hs _ _ _ _ h3)).suf (suf_want h4))) fun _ _ _ => nz_ok
   ·cases hi
  ·cases hi
 ·split
  ·rename_i r hi
   refine nz_then ?_ fun _ _ _ => nz_ok
   split at hi
   ·unfold notP at hi
    split at hi
    ·rename_i hT
     injection hi with hi
     subst hi
     exact nz_then (hr 3 _ (h.suf (suf_is hT))) fun _ _ _ => nz_ok
    ·cases hi
   ·cases hi
  ·exact nz_then (nz_prim hr hs h) fun _ _ _ => nz_ok
theorem nz_ploop (f : Nat) : ∀ (k own : Nat) (e : Ex) (l : List Tok), Ends l → NZ (ploop symP rec f k own e l)
 | 0, _, _, _, _ => nz_ok
 | k + 1, own, e, l, h => by
  simp only [ploop]
  cases hq : symP l with
  | none => exact nz_ok
  | some q =>
   obtain ⟨op, g⟩ := q
   simp only
   refine nz_ite (fun _ => nz_ok) fun _ => ?_
   obtain ⟨w, hw⟩ := sym_is hq
   have e1 := h.suf (suf_is hw)
   exact nz_then (hr _ _ e1) fun x t h1 => nz_ploop f k g _ t (e1.suf (hs _ _ _ _ h1))
end
theorem nz_rd : ∀ (n f : Nat) (l : List Tok), Ends l → NZ (rdE n f l)
 | 0, f, l, h => nz_bad (by have := h.pos; omega)
 | n + 1, f, l, h => by
  rw [show rdE (n + 1) f l = (prfx (primP nameV) ifP notP (rdE n) f l).then fun x t => ploop symP (rdE n) f (t.length + 1) x.2 x.1 t from rfl]
  have hs : ∀ f l e t, rdE n f l = .ok e t → Suf l t := fun f l e t h => rd_suf h
  refine nz_then (nz_prfx (nz_rd n) hs h) fun x t h1 => nz_ploop (nz_rd n) hs f _ _ _ t (h.suf ?_)
  obtain ⟨e, o⟩ := x
  exact (prfx_sound (fun f l e t h => rd_sound n f l e t h) h1).suf
theorem nz_all {l : List Tok} (h : Ends l) : NZ (allP l) := nz_then (nz_rd _ _ _ h) fun _ _ _ => nz_ite (fun _ => nz_ite (fun _ => nz_ok) (fun _ => nz_bad (by decide))) (fun _ => nz_bad (by decide))
end Go.Proofs.YtedoeogopmenpaaGreatDoor
end
section
namespace Go.Proofs.YtedoeogopmenpaaGreatDoor
def widW : List ByteArray → Nat
 | [] => 0
 | x :: r => x.size + 1 + widW r
theorem jn_wid (x : ByteArray) (r : List ByteArray) : (jn (x :: r)).size + 1 = widW (x :: r) := by
 induction r generalizing x with
 | nil => rw [jn_one]; rfl
 | cons y r ih =>
  have h := ih y
  rw [jn_two, ByteArray.size_append, ByteArray.size_append]
  have : blank1.size = 1 := rfl
  show _ = x.size + 1 + widW (y :: r)
  omega
theorem jn_widle (ws : List ByteArray) : (jn ws).size ≤ widW ws := by
 cases ws with
 | nil => rw [jn_len]; simp [Lib.join_nil]
 | cons x r => have := jn_wid x r; omega
theorem wid_sub {a b : List ByteArray} (h : a.Sublist b) : widW a ≤ widW b := by
 induction h with
 | slnil => exact Nat.le_refl _
 | cons x h ih => show _ ≤ x.size + 1 + widW _; omega
 | cons_cons x h ih => show x.size + 1 + widW _ ≤ x.size + 1 + widW _; omega
def outL (L : List Tok) (i k : Nat) : List Tok := L.take i ++ (L.take k).drop (i + 1) ++ L.drop (k + 1)
theorem out_sub (L : List Tok) {i k : Nat} (h : i < k) (hk : k ≤ L.length) : (outL L i k).Sublist (L.take i ++ L.drop (i + 1)) := by
 have h1 : L.drop (i + 1) = (L.take k).drop (i + 1) ++ L.drop k := by
  conv => lhs; rw [← List.take_append_drop k L]
  exact List.drop_append_of_le_length (by rw [List.length_take]; omega)
 have h2 : (L.drop (k + 1)).Sublist (L.drop k) := by
  rw [← List.drop_drop]
  exact List.drop_sublist 1 _
 unfold outL
 rw [h1, List.append_assoc]
 exact (List.Sublist.refl _).append ((List.Sublist.refl _).append h2)
theorem drop1_sub (L : List Tok) (i : Nat) : (L.take i ++ L.drop (i + 1)).Sublist L := by
 have h2 : (L.drop (i + 1)).Sublist (L.drop i) := by
  rw [← List.drop_drop]
  exact List.drop_sublist 1 _
 have := (List.Sublist.refl (L.take i)).append h2
 rw [List.take_append_drop] at this
 exact this
abbrev noEnd (t : Tok) : Bool := !decide (t.k = 3)
theorem fewer (L : List Tok) {i : Nat} (hi : i < L.length) (hk : L[i].k ≠ 3) : ((L.take i ++ L.drop (i + 1)).filter noEnd).length < (L.filter noEnd).length := by
 have h1 : L.filter noEnd = (L.take i).filter noEnd ++ (L[i] :: (L.drop (i + 1)).filter noEnd) := by
  conv => lhs; rw [← List.take_append_drop i L, List.drop_eq_getElem_cons hi]
  rw [List.filter_append, List.filter_cons_of_pos (by simp [hk])]
 rw [h1, List.filter_append, List.length_append, List.length_append, List.length_cons]
 omega
def layE (e : Ex) : List Tok := lay 0 (e.toks itoaB 0) ++ [endTok (e.text 0).size]
section
variable {e : Ex} (h : e.right 12 = true)
include h
theorem toks_z : ∀ t ∈ e.toks itoaB 0, Tz t := toks_tk 12 e h 0 (by omega)
theorem textE_laid : LaidL (e.text 0).data.toList (e.toks itoaB 0) := txt_laid (toks_ne h 0) fun t ht => (toks_z h t ht).1
theorem lexE (hz : (e.text 0).size ≤ 4000) : lexV (e.text 0) = (layE e, 0, 0) := by
 have h1 := Lib.size_eq (e.text 0)
 have := laid_lex (textE_laid h) (by omega)
 rw [← h1] at this
 exact this
theorem lay_k : ∀ t ∈ lay 0 (e.toks itoaB 0), noEnd t = true := by
 intro t ht
 have h1 : t.k ∈ (lay 0 (e.toks itoaB 0)).map (·.k) := List.mem_map_of_mem ht
 rw [lay_map (·.k) (fun _ _ => rfl)] at h1
 obtain ⟨u, hu, he⟩ := List.mem_map.1 h1
 have := (toks_z h u hu).1.2.2
 rw [noEnd, ← he]
 simp [this]
theorem lay_filter : (layE e).filter noEnd = lay 0 (e.toks itoaB 0) := by
 unfold layE
 rw [List.filter_append, List.filter_eq_self.2 (lay_k h)]
 exact List.append_nil _
theorem lay_text : textV (layE e) = e.text 0 := by
 show jn (((layE e).filter noEnd).map (·.s)) = _
 rw [lay_filter h, lay_map (·.s) (fun _ _ => rfl)]
 rfl
theorem lay_zero : ((layE e).filter noEnd).map (mv fun _ => 0) = e.toks itoaB 0 := by
 rw [lay_filter h]
 exact lay_mv 0 _ fun t ht => (toks_z h t ht).2
theorem lay_lp {i : Nat} (hi : i < (layE e).length) (hs : (layE e)[i].s = w_lp) : (layE e)[i].k ≠ 3 ∧ i + 1 < (layE e).length := by
 have hl : (layE e).length = (lay 0 (e.toks itoaB 0)).length + 1 := by unfold layE; simp
 by_cases h1 : i < (lay 0 (e.toks itoaB 0)).length
 ·have h2 : (layE e)[i] = (lay 0 (e.toks itoaB 0))[i] := by
   unfold layE
   exact List.getElem_append_left h1
  have h3 := lay_k h _ (List.getElem_mem h1)
  rw [← h2] at h3
  exact ⟨by simpa using h3, by omega⟩
 ·exfalso
  have h2 : (layE e)[i]? = some (endTok (e.text 0).size) := by
   unfold layE
   rw [List.getElem?_append_right (by omega), show i - (lay 0 (e.toks itoaB 0)).length = 0 by omega]
   rfl
  rw [List.getElem?_eq_getElem hi] at h2
  rw [Option.some.inj h2] at hs
  exact absurd hs (by simp [endTok])
theorem fewer_said {Q : List Tok} (hq : Q.Sublist (e.toks itoaB 0)) (hl : Q.length < (e.toks itoaB 0).length) (hv : (parseEV (txt Q)).2.2 = 0) : (parseEV (txt Q)).1 ≠ e := by
 intro he
 have hlaid : LaidL (txt Q).data.toList Q := by
  cases Q with
  | nil => exact .nil
  | cons t r => exact txt_laid (by simp) fun u hu => (toks_z h u (hq.subset hu)).1
 have hsz : (txt Q).size ≤ 4000 := by
  rcases Nat.lt_or_ge 4000 (txt Q).size with hb | hb
  ·exfalso
   have : lexV (txt Q) = ([], 0, 6) := by unfold lexV; rw [if_pos (by omega)]
   unfold parseEV at hv
   rw [this] at hv
   simp at hv
  ·exact hb
 have h1 := Lib.size_eq (txt Q)
 have hlex := laid_lex hlaid (by omega)
 have hB : B (txt Q).data.toList = txt Q := rfl
 rw [hB] at hlex
 obtain ⟨_, _, _, hends, _⟩ := lex_ready hlex
 unfold parseEV at hv he
 rw [hlex] at hv he
 simp only [if_true] at hv he
 cases hp : allP (lay 0 Q ++ [endTok (txt Q).data.toList.length]) with
 | bad p c =>
  rw [hp] at hv he
  simp only at hv he
  exact nz_all hends p c hp hv
 | ok y t =>
  rw [hp] at he
  simp only at he
  subst he
  unfold allP at hp
  obtain ⟨x, u, h3, h4⟩ := then_less hp
  obtain ⟨o, hd⟩ := readE_der h3
  have hx : x = y := by
   split at h4
   ·split at h4
    ·cases h4; rfl
    ·cases h4
   ·cases h4
  subst hx
  have hc := hd.cost itoaB
  have hpos := (hends.suf hd.suf).pos
  have h5 := cost_le itoaB (e := x) (Nat.zero_le o)
  rw [List.length_append, lay_len, List.length_singleton] at hc
  omega
theorem out_said {i k : Nat} (hi : i < (layE e).length) (hs : (layE e)[i].s = w_lp) (hik : i < k) (hk : k ≤ (layE e).length) : ((parseEV (textV (outL (layE e) i k))).2.2 = 0 → (parseEV (textV (outL (layE e) i k))).1 ≠ e) ∧ (textV (outL (layE e) i k)).size ≤ (e.text 0).size + 1 := by
 have h1 := out_sub (layE e) hik hk
 have h2 := h1.trans (drop1_sub (layE e) i)
 have h3 := fewer (layE e) hi (lay_lp h hi hs).1
 have h4 := (h2.filter noEnd).map (mv fun _ => 0)
 rw [lay_zero h] at h4
 have h5 := (h1.filter noEnd).length_le
 have e1 : textV (outL (layE e) i k) = txt (((outL (layE e) i k).filter noEnd).map (mv fun _ => 0)) := by
  unfold txt
  rw [List.map_map]
  rfl
 have h6 : (e.toks itoaB 0).length = ((layE e).filter noEnd).length := by rw [← lay_zero h, List.length_map]
 rw [e1]
 refine ⟨fewer_said h h4 (by rw [List.length_map]; omega), ?_⟩
 have h7 := wid_sub (h4.map (·.s))
 have h8 := jn_widle ((((outL (layE e) i k).filter noEnd).map (mv fun _ => 0)).map (·.s))
 have h9 : (e.text 0).size + 1 = widW ((e.toks itoaB 0).map (·.s)) := by
  have hne := toks_ne h 0
  cases hc : e.toks itoaB 0 with
  | nil => exact absurd hc hne
  | cons t r =>
   have := jn_wid t.s (r.map (·.s))
   unfold Ex.text txt
   rw [hc]
   exact this
 show (jn _).size ≤ _
 omega
end
end Go.Proofs.YtedoeogopmenpaaGreatDoor
end
