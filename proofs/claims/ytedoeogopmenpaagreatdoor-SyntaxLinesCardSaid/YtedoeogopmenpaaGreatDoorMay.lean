/-
  Conditions: none.
-/
import Derived.Test.YtedoeogopmenpaaGreatDoorMax
set_option maxHeartbeats 16000000
set_option maxRecDepth 20000
section
namespace Go.Proofs.YtedoeogopmenpaaGreatDoor
def mv (g : Int → Int) (t : Tok) : Tok := { t with p := g t.p }
def Rd.mv {α : Type} (g : Int → Int) : Rd α → Rd α
 | .ok x r => .ok x (r.map (Go.Proofs.YtedoeogopmenpaaGreatDoor.mv g))
 | .bad p e => .bad (g p) e
section
variable {α β : Type} {g : Int → Int}
theorem then_mv {x x' : Rd α} {f f' : α → List Tok → Rd β} (hx : x' = x.mv g) (hf : ∀ a r, f' a (r.map (mv g)) = (f a r).mv g) : x'.then f' = (x.then f).mv g := by
 subst hx
 cases x with
 | ok a r => exact hf a r
 | bad p e => rfl
theorem ite_mv {c : Prop} [Decidable c] {a b a' b' : Rd α} (ha : a' = a.mv g) (hb : b' = b.mv g) : (if c then a' else b') = (if c then a else b).mv g := by split <;> assumption
theorem drop_mv (l : List Tok) (n : Nat) : (l.map (mv g)).drop n = (l.drop n).map (mv g) := (List.map_drop ..).symm
theorem nxt_mv (h0 : g 0 = 0) (l : List Tok) : nxt (l.map (mv g)) = mv g (nxt l) := by
 cases l with
 | nil => simp [nxt, mv, h0]
 | cons t r => rfl
theorem nxt_k (h0 : g 0 = 0) (l : List Tok) : (nxt (l.map (mv g))).k = (nxt l).k := by rw [nxt_mv h0]; rfl
theorem nxt_s (h0 : g 0 = 0) (l : List Tok) : (nxt (l.map (mv g))).s = (nxt l).s := by rw [nxt_mv h0]; rfl
theorem nxt_n (h0 : g 0 = 0) (l : List Tok) : (nxt (l.map (mv g))).n = (nxt l).n := by rw [nxt_mv h0]; rfl
theorem nxt_p (h0 : g 0 = 0) (l : List Tok) : (nxt (l.map (mv g))).p = g (nxt l).p := by rw [nxt_mv h0]; rfl
theorem isT_mv (h0 : g 0 = 0) (l : List Tok) (s : ByteArray) : isT (l.map (mv g)) s = isT l s := by
 unfold isT
 rw [nxt_k h0, nxt_s h0]
theorem want_mv (h0 : g 0 = 0) (l : List Tok) (s : ByteArray) : want (l.map (mv g)) s = (want l s).mv g := by
 unfold want
 rw [isT_mv h0, drop_mv, nxt_p h0]
 exact ite_mv rfl rfl
theorem nameP_mv (h0 : g 0 = 0) (l : List Tok) : nameP nameV (l.map (mv g)) = (nameP nameV l).mv g := by
 unfold nameP
 rw [drop_mv, nxt_k h0, nxt_s h0, nxt_p h0]
 exact ite_mv rfl rfl
theorem unitP_mv (h0 : g 0 = 0) (l : List Tok) : unitP (l.map (mv g)) = ((unitP l).1, (unitP l).2.map (mv g)) := by
 unfold unitP
 rw [isT_mv h0, isT_mv h0, drop_mv]
 split
 ·rfl
 ·split <;> rfl
theorem symP_mv (h0 : g 0 = 0) (l : List Tok) : symP (l.map (mv g)) = symP l := by
 unfold symP
 simp only [isT_mv h0]
section
variable {rec : Nat → List Tok → Rd Ex}
theorem both_mv (h0 : g 0 = 0) (hr : ∀ f l, rec f (l.map (mv g)) = (rec f l).mv g) (op : Int) (l : List Tok) : both rec op (l.map (mv g)) = (both rec op l).mv g := by
 unfold both
 exact then_mv (want_mv h0 _ _) fun _ l => then_mv (hr 0 l) fun a l => then_mv (want_mv h0 _ _) fun _ l => then_mv (hr 0 l) fun b l => then_mv (want_mv h0 _ _) fun _ l => rfl
theorem primP_mv (h0 : g 0 = 0) (hr : ∀ f l, rec f (l.map (mv g)) = (rec f l).mv g) (l : List Tok) : primP nameV rec (l.map (mv g)) = (primP nameV rec l).mv g := by
 unfold primP
 simp only [drop_mv, nxt_k h0, nxt_n h0, isT_mv h0, unitP_mv h0]
 exact ite_mv rfl (ite_mv rfl (ite_mv rfl (ite_mv (then_mv (nameP_mv h0 _) fun _ _ => rfl) (ite_mv (then_mv (nameP_mv h0 _) fun _ _ => rfl) (ite_mv (both_mv h0 hr _ _) (ite_mv (both_mv h0 hr _ _) (ite_mv (then_mv (hr 0 _) fun e l => then_mv (want_mv h0 _ _) fun _ _ => rfl) (then_mv (nameP_mv h0 _) fun _ _ => rfl))))))))
theorem ifP_mv (h0 : g 0 = 0) (hr : ∀ f l, rec f (l.map (mv g)) = (rec f l).mv g) (l : List Tok) : ifP rec (l.map (mv g)) = (ifP rec l).map (Rd.mv g) := by
 unfold ifP
 rw [isT_mv h0, drop_mv]
 split
 ·exact congrArg some (then_mv (hr 0 _) fun a l => then_mv (want_mv h0 _ _) fun _ l => then_mv (hr 0 l) fun b l => then_mv (want_mv h0 _ _) fun _ l => then_mv (hr 0 l) fun c l => rfl)
 ·rfl
theorem notP_mv (h0 : g 0 = 0) (hr : ∀ f l, rec f (l.map (mv g)) = (rec f l).mv g) (l : List Tok) : notP rec (l.map (mv g)) = (notP rec l).map (Rd.mv g) := by
 unfold notP
 rw [isT_mv h0, drop_mv]
 split
 ·exact congrArg some (then_mv (hr 3 _) fun a l => rfl)
 ·rfl
theorem prfx_mv (h0 : g 0 = 0) (hr : ∀ f l, rec f (l.map (mv g)) = (rec f l).mv g) (f : Nat) (l : List Tok) : prfx (primP nameV) ifP notP rec f (l.map (mv g)) = (prfx (primP nameV) ifP notP rec f l).mv g := by
 have h1 : (if f = 0 then ifP rec (l.map (mv g)) else none) = (if f = 0 then ifP rec l else none).map (Rd.mv g) := by
  split
  ·exact ifP_mv h0 hr l
  ·rfl
 have h2 : (if f ≤ 3 then notP rec (l.map (mv g)) else none) = (if f ≤ 3 then notP rec l else none).map (Rd.mv g) := by
  split
  ·exact notP_mv h0 hr l
  ·rfl
 unfold prfx
 rw [h1, h2]
 cases (if f = 0 then ifP rec l else none) with
 | some r => exact then_mv rfl fun _ _ => rfl
 | none =>
  cases (if f ≤ 3 then notP rec l else none) with
  | some r => exact then_mv rfl fun _ _ => rfl
  | none => exact then_mv (primP_mv h0 hr l) fun _ _ => rfl
theorem ploop_mv (h0 : g 0 = 0) (hr : ∀ f l, rec f (l.map (mv g)) = (rec f l).mv g) (form : Nat) : ∀ (k own : Nat) (e : Ex) (l : List Tok), ploop symP rec form k own e (l.map (mv g)) = (ploop symP rec form k own e l).mv g
 | 0, own, e, l => rfl
 | k + 1, own, e, l => by
  simp only [ploop, symP_mv h0]
  cases hs : symP l with
  | none => rfl
  | some q =>
   obtain ⟨op, f⟩ := q
   simp only
   refine ite_mv rfl ?_
   rw [drop_mv]
   exact then_mv (hr _ _) fun x t => ploop_mv h0 hr form k f _ t
end
theorem rd_mv (h0 : g 0 = 0) : ∀ (n f : Nat) (l : List Tok), rdE n f (l.map (mv g)) = (rdE n f l).mv g
 | 0, f, l => by
  show Rd.bad 0 ((l.map (mv g)).length : Int) = Rd.bad (g 0) (l.length : Int)
  rw [h0, List.length_map]
 | n + 1, f, l => then_mv (prfx_mv h0 (rd_mv h0 n) f l) fun x t => by
  rw [List.length_map]
  exact ploop_mv h0 (rd_mv h0 n) f _ _ _ t
theorem readE_mv (h0 : g 0 = 0) (l : List Tok) : readE (l.map (mv g)) = (readE l).mv g := by
 unfold readE
 rw [List.length_map, rd_mv h0]
theorem wholeP_mv (h0 : g 0 = 0) (after : ByteArray) (l : List Tok) : wholeP after (l.map (mv g)) = (wholeP after l).mv g := by
 unfold wholeP
 refine then_mv (readE_mv h0 l) fun e t => ?_
 unfold behindP
 rw [isT_mv h0, nxt_p h0, drop_mv]
 exact ite_mv (ite_mv rfl rfl) rfl
theorem numP_mv (h0 : g 0 = 0) (a b : Int) (l : List Tok) : numP a b (l.map (mv g)) = (numP a b l).mv g := by
 unfold numP
 rw [drop_mv, nxt_k h0, nxt_n h0, nxt_p h0]
 exact ite_mv (ite_mv rfl rfl) rfl
theorem partP_mv (h0 : g 0 = 0) (w : ByteArray) (a b : Int) (l : List Tok) : partP w a b (l.map (mv g)) = (partP w a b l).mv g := by
 unfold partP
 exact then_mv (want_mv h0 _ _) fun _ l => then_mv (numP_mv h0 _ _ _) fun n l => then_mv (want_mv h0 _ _) fun _ l => rfl
theorem freshP_mv (h0 : g 0 = 0) (others : List ByteArray) (l : List Tok) : freshP others (l.map (mv g)) = (freshP others l).mv g := by
 unfold freshP
 rw [drop_mv, nxt_k h0, nxt_s h0, nxt_p h0]
 exact ite_mv (ite_mv rfl rfl) rfl
theorem letsP_mv (h0 : g 0 = 0) : ∀ (k : Nat) (ls : List (ByteArray × Ex)) (l : List Tok), letsP k ls (l.map (mv g)) = (letsP k ls l).mv g
 | 0, ls, l => rfl
 | k + 1, ls, l => by
  simp only [letsP, isT_mv h0, nxt_p h0, drop_mv]
  exact ite_mv (ite_mv (then_mv (freshP_mv h0 _ _) fun s l => then_mv (want_mv h0 _ _) fun _ l => then_mv (wholeP_mv h0 _ _) fun e l => letsP_mv h0 k _ l) rfl) rfl
theorem partsP_mv (h0 : g 0 = 0) : ∀ (ws : List ByteArray) (es : List Ex) (l : List Tok), partsP ws es (l.map (mv g)) = (partsP ws es l).mv g
 | [], es, l => rfl
 | w :: ws, es, l => by
  simp only [partsP]
  exact then_mv (want_mv h0 _ _) fun _ l => then_mv (wholeP_mv h0 _ _) fun e l => partsP_mv h0 ws _ l
theorem bylawsP_mv (h0 : g 0 = 0) (l : List Tok) : bylawsP (l.map (mv g)) = (bylawsP l).mv g := by
 unfold bylawsP
 refine then_mv (want_mv h0 _ _) fun _ l => then_mv (nameP_mv h0 _) fun nm l => then_mv (want_mv h0 _ _) fun _ l => then_mv (by rw [List.length_map]; exact letsP_mv h0 _ _ _) fun ls l => then_mv (partsP_mv h0 _ _ _) fun es l => ?_
 unfold numsP
 refine then_mv (partP_mv h0 _ _ _ _) fun q l => then_mv (partP_mv h0 _ _ _ _) fun s l => then_mv (partP_mv h0 _ _ _ _) fun c l => ?_
 unfold lastP
 rw [nxt_k h0, nxt_p h0]
 exact ite_mv rfl rfl
end
def clampI (B : Int) (p : Int) : Int := if p < 0 then 0 else if B < p then B else p
theorem mv_ok {α : Type} {g : Int → Int} {x y : Rd α} {a : α} {t : List Tok} (hx : y = x.mv g) (h : y = .ok a t) : ∃ u, x = .ok a u ∧ t = u.map (mv g) := by
 cases x with
 | ok b u => rw [h] at hx; injection hx with h1 h2; subst h1; exact ⟨u, rfl, h2⟩
 | bad p e => rw [h] at hx; cases hx
end Go.Proofs.YtedoeogopmenpaaGreatDoor
end
section
namespace Go.Proofs.YtedoeogopmenpaaGreatDoor
def Tz (t : Tok) : Prop := Tk t ∧ t.p = 0
theorem kw_tk {w : ByteArray} (h : w ∈ [w_if, w_then, w_else, w_not, w_or, w_and, w_cents, w_minutes, w_true, w_false, w_trip, w_member, w_min, w_max, w_let, w_bylaws, w_admit, w_fare, w_late, w_noshow, w_quota, w_share, w_change]) : Tz (wordT w) := by
 refine ⟨tk_word ?_, rfl⟩
 simp only [List.mem_cons, List.not_mem_nil, or_false] at h
 rcases h with rfl | rfl | rfl | rfl | rfl | rfl | rfl | rfl | rfl | rfl | rfl | rfl | rfl | rfl | rfl | rfl | rfl | rfl | rfl | rfl | rfl | rfl | rfl <;> decide
theorem sg_tk {w : ByteArray} (h : w ∈ [w_eq, w_lt, w_plus, w_minus, w_times, w_by, w_lp, w_rp, w_comma, w_semi, w_is]) : Tz (signT w) := by
 simp only [List.mem_cons, List.not_mem_nil, or_false] at h
 rcases h with rfl | rfl | rfl | rfl | rfl | rfl | rfl | rfl | rfl | rfl | rfl <;> exact ⟨tk_sign (by decide) (by decide) (by decide) (by decide), rfl⟩
theorem op_tk {op : Int} {t : Tok} {g : Nat} (h : opInfo op = some (t, g)) : Tz t := by
 rcases opInfo_cases h with ⟨rfl, rfl, rfl⟩ | ⟨rfl, rfl, rfl⟩ | ⟨rfl, rfl, rfl⟩ | ⟨rfl, rfl, rfl⟩ | ⟨rfl, rfl, rfl⟩ | ⟨rfl, rfl, rfl⟩ | ⟨rfl, rfl, rfl⟩ | ⟨rfl, rfl, rfl⟩ <;> first | exact kw_tk (by simp) | exact sg_tk (by simp)
theorem num_tks {n u : Int} (h : numRight n u ⟨#[]⟩ = true) : ∀ t ∈ numToks itoaB n u, Tz t := by
 unfold numRight at h
 simp only [Bool.and_eq_true, decide_eq_true_eq] at h
 obtain ⟨⟨_, hu0, hu3⟩, hn0, hn1⟩ := h
 unfold numToks
 by_cases hu : u = 3
 ·rw [if_pos hu]
  split <;> (intro t ht; obtain rfl := List.mem_singleton.1 ht; exact kw_tk (by simp))
 ·rw [if_neg hu] at hn1 ⊢
  have hk : Tz ⟨1, itoaB n, n, 0⟩ := ⟨tk_num hn0 hn1, rfl⟩
  split
  ·intro t ht
   rcases List.mem_cons.1 ht with rfl | ht
   ·exact hk
   ·obtain rfl := List.mem_singleton.1 ht
    exact kw_tk (by simp)
  ·split
   ·intro t ht
    rcases List.mem_cons.1 ht with rfl | ht
    ·exact hk
    ·obtain rfl := List.mem_singleton.1 ht
     exact kw_tk (by simp)
   ·intro t ht
    obtain rfl := List.mem_singleton.1 ht
    exact hk
theorem all_app {α : Type} {P : α → Prop} {a b : List α} (ha : ∀ x ∈ a, P x) (hb : ∀ x ∈ b, P x) : ∀ x ∈ a ++ b, P x := fun x hx => (List.mem_append.1 hx).elim (ha x) (hb x)
theorem all_cons {α : Type} {P : α → Prop} {a : α} {b : List α} (ha : P a) (hb : ∀ x ∈ b, P x) : ∀ x ∈ a :: b, P x := fun x hx => (List.mem_cons.1 hx).elim (fun e => e ▸ ha) (hb x)
theorem all_nil {α : Type} {P : α → Prop} : ∀ x ∈ ([] : List α), P x := fun x hx => absurd hx (List.not_mem_nil)
theorem toks_tk : ∀ (d : Nat) (e : Ex), e.right d = true → ∀ f, f ≤ 7 → ∀ t ∈ e.toks itoaB f, Tz t
 | 0, e, h => by rw [right_zero] at h; cases h
 | d + 1, e, h => by
  have ih := toks_tk d
  have h0 : ∀ t ∈ e.toks itoaB 0, Tz t := by
   rcases right_shape h with ⟨n, u, rfl, h'⟩ | ⟨op, s, ho, rfl, h'⟩ | ⟨x, rfl, hx⟩ | ⟨x, y, z, rfl, hx, hy, hz⟩ | ⟨op, x, y, ho, rfl, hx, hy⟩ | ⟨op, x, y, t, g, ho, rfl, hx, hy⟩
   ·rw [num_toks _ _ _ _ _ (by omega)]
    exact num_tks h'
   ·rw [leaf_toks _ _ _ _ ho _ (by omega)]
    split
    ·exact all_cons ⟨tk_name h', rfl⟩ all_nil
    ·refine all_cons ?_ (all_cons ⟨tk_name h', rfl⟩ all_nil)
     split <;> exact kw_tk (by simp)
   ·rw [not_toks]
    exact all_cons (kw_tk (by simp)) (ih x hx 3 (by omega))
   ·rw [if_toks]
    exact all_cons (kw_tk (by simp)) (all_app (ih x hx 0 (by omega)) (all_cons (kw_tk (by simp)) (all_app (ih y hy 0 (by omega)) (all_cons (kw_tk (by simp)) (ih z hz 0 (by omega))))))
   ·rw [call_toks ho]
    refine all_cons ?_ (all_cons (sg_tk (by simp)) (all_app (ih x hx 0 (by omega)) (all_cons (sg_tk (by simp)) (all_app (ih y hy 0 (by omega)) (all_cons (sg_tk (by simp)) all_nil)))))
    split <;> exact kw_tk (by simp)
   ·obtain ⟨_, _, g6, _⟩ := op_form ho
    rw [op_toks ho]
    exact all_app (ih x hx _ (by unfold leftV; split <;> omega)) (all_cons (op_tk ho) (ih y hy _ (by omega)))
  intro f hf
  rw [toks_of]
  split
  ·exact all_cons (sg_tk (by simp)) (all_app h0 (all_cons (sg_tk (by simp)) all_nil))
  ·exact h0
theorem right_levels : ∀ (d : Nat) (e : Ex), e.right d = true → e.levels ≤ d
 | 0, e, h => by rw [right_zero] at h; cases h
 | d + 1, e, h => by
  have ih := right_levels d
  rcases right_shape h with ⟨n, u, rfl, h'⟩ | ⟨op, s, ho, rfl, h'⟩ | ⟨x, rfl, hx⟩ | ⟨x, y, z, rfl, hx, hy, hz⟩ | ⟨op, x, y, ho, rfl, hx, hy⟩ | ⟨op, x, y, t, g, ho, rfl, hx, hy⟩
  ·simp only [Ex.levels, Ex.levelsL]; omega
  ·simp only [Ex.levels, Ex.levelsL]; omega
  ·have := ih x hx
   simp only [Ex.levels, Ex.levelsL]; omega
  ·have := ih x hx
   have := ih y hy
   have := ih z hz
   simp only [Ex.levels, Ex.levelsL]; omega
  ·have := ih x hx
   have := ih y hy
   rw [levels_two]; omega
  ·have := ih x hx
   have := ih y hy
   rw [levels_two]; omega
theorem readE_toks {e : Ex} {d : Nat} (h : e.right d = true) {r : List Tok} (hs : Halt 0 r) : readE (e.toks itoaB 0 ++ r) = .ok e r := (body_all d e h).read0 hs (by rw [List.length_append]; omega)
theorem wholeP_toks {e : Ex} (h : e.right 12 = true) (r : List Tok) : wholeP w_semi (e.toks itoaB 0 ++ signT w_semi :: r) = .ok e r := by
 unfold wholeP
 rw [readE_toks h (stop_closer rfl rfl rfl), then_ok]
 unfold behindP
 rw [isT_is (signT w_semi) r (by decide), if_pos rfl, if_pos (right_levels 12 e h)]
 rfl
abbrev numT (n : Int) : Tok := ⟨1, itoaB n, n, 0⟩
def letT (q : ByteArray × Ex) : List Tok := wordT w_let :: wordT q.1 :: signT w_is :: q.2.toks itoaB 0
def partT (w : ByteArray) (e : Ex) : List Tok := wordT w :: e.toks itoaB 0
def lastT (w : ByteArray) (n : Int) : List Tok := [wordT w, numT n]
def By.tl (x : By) : List (List Tok) := [[wordT w_bylaws, wordT x.name]] ++ x.lets.map letT ++ [partT w_admit x.admit] ++ [partT w_fare x.fare] ++ [partT w_late x.late] ++ [partT w_noshow x.noshow] ++ [lastT w_quota x.quota] ++ [lastT w_share x.share] ++ [lastT w_change x.change]
def flatT (ls : List (List Tok)) : List Tok := (ls.map fun l => l ++ [signT w_semi]).flatten
def By.toks (x : By) : List Tok := flatT x.tl
theorem flatT_app (a b : List (List Tok)) : flatT (a ++ b) = flatT a ++ flatT b := by simp [flatT]
theorem flatT_cons (a : List Tok) (b : List (List Tok)) : flatT (a :: b) = a ++ signT w_semi :: flatT b := by simp [flatT]
theorem flatT_nil : flatT [] = [] := rfl
def catT (ls : List (List Tok)) : List UInt8 := (ls.map fun l => (txt l ++ ⟨#[32, 59, 10]⟩).data.toList).flatten
theorem catT_app (a b : List (List Tok)) : catT (a ++ b) = catT a ++ catT b := by simp [catT]
theorem catL_app (a b : List (List ByteArray)) : catL (a ++ b) = catL a ++ catL b := by simp [catL]
theorem catL_one {w : List ByteArray} {t : List Tok} (h : jn w = txt t) : catL [w] = catT [t] := by simp [catL, catT, lineV, h]
theorem catL_map {α : Type} {f : α → List ByteArray} {g : α → List Tok} : ∀ {l : List α}, (∀ a ∈ l, jn (f a) = txt (g a)) → catL (l.map f) = catT (l.map g)
 | [], _ => rfl
 | a :: r, h => by
  have e1 : List.map f (a :: r) = [f a] ++ r.map f := rfl
  have e2 : List.map g (a :: r) = [g a] ++ r.map g := rfl
  rw [e1, e2, catL_app, catT_app, catL_one (h a (by simp)), catL_map fun b hb => h b (List.mem_cons_of_mem _ hb)]
theorem jn_part {w : ByteArray} {e : Ex} {d : Nat} (h : e.right d = true) : jn [w, e.text 0] = txt (partT w e) := by
 rw [partT, txt_cons _ (toks_ne h 0), jn_two, jn_one]
 rfl
theorem jn_let {q : ByteArray × Ex} {d : Nat} (h : q.2.right d = true) : jn (letL q) = txt (letT q) := by
 rw [letT, letL, txt_cons _ (by simp), txt_cons _ (by simp), txt_cons _ (toks_ne h 0), jn_two, jn_two, jn_two, jn_one]
 rfl
theorem jn_last (w : ByteArray) (n : Int) : jn [w, itoaB n] = txt (lastT w n) := rfl
theorem catL_tl {x : By} (h : x.Ok) : catL x.lines = catT x.tl := by
 unfold By.lines By.tl By.head
 simp only [catL_app, catT_app, List.take_length]
 rw [catL_map (g := letT) fun q hq => jn_let (h.lets q hq), catL_one (jn_part h.admit), catL_one (jn_part h.fare), catL_one (jn_part h.late), catL_one (jn_part h.noshow), catL_one (jn_last w_quota _), catL_one (jn_last w_share _), catL_one (jn_last w_change _)]
 rfl
theorem catT_laid : ∀ {ls : List (List Tok)}, (∀ l ∈ ls, l ≠ [] ∧ ∀ t ∈ l, Tz t) → LaidC (catT ls) (flatT ls)
 | [], _ => .nil
 | l :: r, h => by
  obtain ⟨h1, h2⟩ := h l (by simp)
  have e1 : catT (l :: r) = ((txt l).data.toList ++ [32]) ++ ((signT w_semi).s.data.toList ++ 10 :: catT r) := by
   simp [catT, ByteArray.data_append]
  have e2 : flatT (l :: r) = l ++ (signT w_semi :: flatT r) := flatT_cons l r
  rw [e1, e2]
  exact (txt_close h1 (fun t ht => (h2 t ht).1) rfl).app (.cons (sg_tk (by simp)).1 rfl (catT_laid fun m hm => h m (List.mem_cons_of_mem _ hm)))
theorem uniqA_at {l : List ByteArray} {i : Nat} {most : Int} (h : uniqV l most = true) (hi : i < l.length) : uniqA l i = true := by
 unfold uniqV at h
 rw [Bool.and_eq_true] at h
 have := h.1
 unfold uniqF at this
 exact List.all_eq_true.1 this i (List.mem_range.2 hi)
theorem let_name {x : By} (h : x.Ok) {q : ByteArray × Ex} (hq : q ∈ x.lets) : nameV q.1 = true := by
 obtain ⟨i, hi, rfl⟩ := List.getElem_of_mem hq
 have := uniqA_at h.uniq (i := i) (by simpa using hi)
 unfold uniqA at this
 rw [Bool.and_eq_true] at this
 have h1 := this.1
 rw [getD_at (by simpa using hi)] at h1
 simpa using h1
theorem tl_ok {x : By} (h : x.Ok) : ∀ l ∈ x.tl, l ≠ [] ∧ ∀ t ∈ l, Tz t := by
 have hp : ∀ {w e}, Tz (wordT w) → Ex.right e 12 = true → partT w e ≠ [] ∧ ∀ t ∈ partT w e, Tz t := fun hw he => ⟨by simp [partT], all_cons hw (toks_tk 12 _ he 0 (by omega))⟩
 have hn : ∀ {w n}, Tz (wordT w) → 0 ≤ n ∧ n ≤ 1000 → lastT w n ≠ [] ∧ ∀ t ∈ lastT w n, Tz t := fun hw hn => ⟨by simp [lastT], all_cons hw (all_cons ⟨tk_num hn.1 (by omega), rfl⟩ all_nil)⟩
 have hone : ∀ {P : List Tok → Prop} {a : List Tok}, P a → ∀ l ∈ [a], P l := fun ha => all_cons ha all_nil
 unfold By.tl
 refine all_app (all_app (all_app (all_app (all_app (all_app (all_app (all_app (hone ⟨by simp, all_cons (kw_tk (by simp)) (all_cons ⟨tk_name h.name, rfl⟩ all_nil)⟩) ?_) (hone (hp (kw_tk (by simp)) h.admit))) (hone (hp (kw_tk (by simp)) h.fare))) (hone (hp (kw_tk (by simp)) h.late))) (hone (hp (kw_tk (by simp)) h.noshow))) (hone (hn (kw_tk (by simp)) h.quota))) (hone (hn (kw_tk (by simp)) h.share))) (hone (hn (kw_tk (by simp)) (by have := h.change; omega)))
 intro l hl
 obtain ⟨q, hq, rfl⟩ := List.mem_map.1 hl
 exact ⟨by simp [letT], all_cons (kw_tk (by simp)) (all_cons ⟨tk_name (let_name h hq), rfl⟩ (all_cons (sg_tk (by simp)) (toks_tk 12 _ (h.lets q hq) 0 (by omega))))⟩
theorem by_laid {x : By} (h : x.Ok) : LaidC (catL x.lines) x.toks := by
 rw [catL_tl h]
 exact catT_laid (tl_ok h)
theorem letsP_toks : ∀ (ls2 : List (ByteArray × Ex)) (k : Nat) (ls : List (ByteArray × Ex)) (r : List Tok), (∀ q ∈ ls2, Ex.right q.2 12 = true) → uniqV ((ls ++ ls2).map (·.1)) 20 = true → isT r w_let = false → ls2.length < k → letsP k ls (flatT (ls2.map letT) ++ r) = .ok (ls ++ ls2) r
 | [], k + 1, ls, r, _, _, hr, _ => by
  simp only [List.map_nil, flatT_nil, List.nil_append, letsP, hr, Bool.false_eq_true, if_false, List.append_nil]
 | q :: ls2, k + 1, ls, r, he, hu, hr, hk => by
  have hlen : ls.length < 20 := by
   have h1 := hu
   unfold uniqV at h1
   rw [Bool.and_eq_true, decide_eq_true_eq] at h1
   have := h1.2
   simp only [List.length_map, List.length_append, List.length_cons] at this
   omega
  have hA := uniqA_at hu (i := ls.length) (by simp)
  unfold uniqA at hA
  rw [getD_at (by simp)] at hA
  simp only [List.map_append, List.map_cons] at hA
  rw [List.getElem_append_right (by simp), List.take_append_of_le_length (by simp), List.take_of_length_le (by simp)] at hA
  simp only [List.length_map, Nat.sub_self, List.getElem_cons_zero, Bool.and_eq_true, Bool.not_eq_true'] at hA
  have e0 : flatT (List.map letT (q :: ls2)) ++ r = wordT w_let :: wordT q.1 :: signT w_is :: (q.2.toks itoaB 0 ++ signT w_semi :: (flatT (ls2.map letT) ++ r)) := by
   simp [flatT, letT]
  rw [e0]
  simp only [letsP]
  rw [isT_is (wordT w_let) _ (by decide), if_pos rfl, if_pos hlen]
  have hf : freshP (ls.map (·.1)) ((wordT w_let :: wordT q.1 :: signT w_is :: (q.2.toks itoaB 0 ++ signT w_semi :: (flatT (ls2.map letT) ++ r))).drop 1) = .ok q.1 (signT w_is :: (q.2.toks itoaB 0 ++ signT w_semi :: (flatT (ls2.map letT) ++ r))) := by
   unfold freshP
   rw [List.drop_succ_cons, List.drop_zero, nxt_cons, if_pos ⟨rfl, hA.1⟩, hA.2]
   rfl
  rw [hf, then_ok, want_is (t := signT w_is) (by decide), then_ok, wholeP_toks (he q (by simp)), then_ok]
  rw [letsP_toks ls2 k (ls ++ [(q.1, q.2)]) r (fun p hp => he p (List.mem_cons_of_mem _ hp)) (by simpa using hu) hr (by simpa using hk)]
  simp
theorem partsP_toks (w : ByteArray) (ws : List ByteArray) (es : List Ex) {e : Ex} (h : e.right 12 = true) (r : List Tok) : partsP (w :: ws) es (partT w e ++ signT w_semi :: r) = partsP ws (es ++ [e]) r := by
 have e0 : partT w e ++ signT w_semi :: r = wordT w :: (e.toks itoaB 0 ++ signT w_semi :: r) := rfl
 rw [e0]
 simp only [partsP]
 rw [want_is (t := wordT w) (by exact (by decide : (0 : Int) ≠ 3)), then_ok, wholeP_toks h, then_ok]
theorem partP_toks (w : ByteArray) {a b n : Int} (h1 : a ≤ n) (h2 : n ≤ b) (r : List Tok) : partP w a b (lastT w n ++ signT w_semi :: r) = .ok n r := by
 have e0 : lastT w n ++ signT w_semi :: r = wordT w :: numT n :: signT w_semi :: r := rfl
 rw [e0]
 unfold partP
 rw [want_is (t := wordT w) (by exact (by decide : (0 : Int) ≠ 3)), then_ok]
 have : numP a b (numT n :: signT w_semi :: r) = .ok n (signT w_semi :: r) := by
  unfold numP
  rw [nxt_cons, if_pos rfl, if_pos ⟨h1, h2⟩]
  rfl
 rw [this, then_ok, want_is (t := signT w_semi) (by decide), then_ok]
theorem bylawsP_toks {x : By} (h : x.Ok) {r : List Tok} (hr : (nxt r).k = 3) : bylawsP (x.toks ++ r) = .ok x r := by
 have e0 : x.toks ++ r = wordT w_bylaws :: wordT x.name :: signT w_semi :: (flatT (x.lets.map letT) ++ (partT w_admit x.admit ++ signT w_semi :: (partT w_fare x.fare ++ signT w_semi :: (partT w_late x.late ++ signT w_semi :: (partT w_noshow x.noshow ++ signT w_semi :: (lastT w_quota x.quota ++ signT w_semi :: (lastT w_share x.share ++ signT w_semi :: (lastT w_change x.change ++ signT w_semi :: r)))))))) := by
  unfold By.toks By.tl
  simp only [flatT_app, flatT_cons, flatT_nil, List.append_assoc, List.cons_append, List.nil_append]
 rw [e0]
 unfold bylawsP
 rw [want_is (t := wordT w_bylaws) (by decide), then_ok]
 have hn : nameP nameV (wordT x.name :: signT w_semi :: (flatT (x.lets.map letT) ++ (partT w_admit x.admit ++ signT w_semi :: (partT w_fare x.fare ++ signT w_semi :: (partT w_late x.late ++ signT w_semi :: (partT w_noshow x.noshow ++ signT w_semi :: (lastT w_quota x.quota ++ signT w_semi :: (lastT w_share x.share ++ signT w_semi :: (lastT w_change x.change ++ signT w_semi :: r))))))))) = .ok x.name (signT w_semi :: (flatT (x.lets.map letT) ++ (partT w_admit x.admit ++ signT w_semi :: (partT w_fare x.fare ++ signT w_semi :: (partT w_late x.late ++ signT w_semi :: (partT w_noshow x.noshow ++ signT w_semi :: (lastT w_quota x.quota ++ signT w_semi :: (lastT w_share x.share ++ signT w_semi :: (lastT w_change x.change ++ signT w_semi :: r))))))))) := by
  unfold nameP
  rw [nxt_cons, if_pos ⟨rfl, h.name⟩]
  rfl
 rw [hn, then_ok, want_is (t := signT w_semi) (by decide), then_ok]
 have hlen : x.lets.length < (flatT (x.lets.map letT) ++ (partT w_admit x.admit ++ signT w_semi :: (partT w_fare x.fare ++ signT w_semi :: (partT w_late x.late ++ signT w_semi :: (partT w_noshow x.noshow ++ signT w_semi :: (lastT w_quota x.quota ++ signT w_semi :: (lastT w_share x.share ++ signT w_semi :: (lastT w_change x.change ++ signT w_semi :: r)))))))).length + 1 := by
  have : ∀ l : List (ByteArray × Ex), l.length ≤ (flatT (l.map letT)).length := fun l => by
   induction l with
   | nil => exact Nat.le_refl _
   | cons q l ih =>
    rw [List.map_cons, flatT_cons, List.length_append, List.length_cons, List.length_cons]
    omega
  have := this x.lets
  rw [List.length_append]
  omega
 rw [letsP_toks x.lets _ [] _ h.lets h.uniq rfl hlen, then_ok, List.nil_append]
 rw [partsP_toks _ _ _ h.admit, partsP_toks _ _ _ h.fare, partsP_toks _ _ _ h.late, partsP_toks _ _ _ h.noshow]
 simp only [partsP, then_ok]
 unfold numsP
 rw [partP_toks _ h.quota.1 h.quota.2, then_ok, partP_toks _ h.share.1 h.share.2, then_ok, partP_toks _ h.change.1 h.change.2, then_ok]
 unfold lastP
 rw [if_pos hr]
 rfl
theorem lay_mv : ∀ (q : Nat) (l : List Tok), (∀ t ∈ l, t.p = 0) → (lay q l).map (mv fun _ => 0) = l
 | _, [], _ => rfl
 | q, t :: r, h => by
  rw [lay, List.map_cons, lay_mv _ r fun x hx => h x (List.mem_cons_of_mem _ hx)]
  have := h t (by simp)
  obtain ⟨k, s, n, p⟩ := t
  simp only at this
  subst this
  rfl
theorem flat_zero {ls : List (List Tok)} (h : ∀ l ∈ ls, l ≠ [] ∧ ∀ t ∈ l, Tz t) : ∀ t ∈ flatT ls, t.p = 0 := by
 intro t ht
 unfold flatT at ht
 obtain ⟨m, hm, ht⟩ := List.mem_flatten.1 ht
 obtain ⟨l, hl, rfl⟩ := List.mem_map.1 hm
 rcases List.mem_append.1 ht with ht | ht
 ·exact ((h l hl).2 t ht).2
 ·obtain rfl := List.mem_singleton.1 ht
  rfl
theorem parse_laid {x : By} (h : x.Ok) {bs : List UInt8} (hl : LaidL bs x.toks) (hs : bs.length ≤ 4000) : parseV (B bs) = (x, 0, 0) := by
 have h1 := laid_lex hl hs
 have hp : ∀ t ∈ x.toks, t.p = 0 := flat_zero (tl_ok h)
 have h2 : (lay 0 x.toks ++ [endTok bs.length]).map (mv fun _ => 0) = x.toks ++ [endTok 0] := by
  rw [List.map_append, lay_mv 0 _ hp]
  rfl
 have h3 := bylawsP_toks h (r := [endTok 0]) rfl
 rw [← h2] at h3
 obtain ⟨u, h4, _⟩ := mv_ok (bylawsP_mv rfl _) h3
 unfold parseV
 rw [h1]
 simp only [if_true, h4]
end Go.Proofs.YtedoeogopmenpaaGreatDoor
end
section
set_option linter.unusedSimpArgs false
set_option linter.unusedVariables false
namespace Go.Proofs.YtedoeogopmenpaaGreatDoor
open Go.RowKit
theorem uniqF_iff (l : List ByteArray) : uniqF l = true ↔ (∀ s ∈ l, nameV s = true) ∧ l.Nodup := by
 constructor
 ·intro h
  unfold uniqF at h
  have hA : ∀ i (hi : i < l.length), nameV l[i] = true ∧ (l.take i).any (fun w => decide (w = l[i])) = false := fun i hi => by
   have := List.all_eq_true.1 h i (List.mem_range.2 hi)
   unfold uniqA at this
   rw [getD_at hi, Bool.and_eq_true, Bool.not_eq_true'] at this
   exact this
  refine ⟨fun s hs => ?_, ?_⟩
  ·obtain ⟨i, hi, rfl⟩ := List.getElem_of_mem hs
   exact (hA i hi).1
  ·refine List.pairwise_iff_getElem.2 fun i j hi hj hij he => ?_
   have h1 := (hA j hj).2
   rw [Bool.eq_false_iff, Ne, List.any_eq_true] at h1
   exact h1 ⟨l[i], List.mem_take_iff_getElem.2 ⟨i, by omega, rfl⟩, decide_eq_true he⟩
 ·rintro ⟨h1, h2⟩
  refine uniq_yes fun i hi => ?_
  unfold uniqA
  rw [getD_at hi, Bool.and_eq_true, Bool.not_eq_true']
  refine ⟨h1 _ (List.getElem_mem hi), ?_⟩
  rw [Bool.eq_false_iff, Ne, List.any_eq_true]
  rintro ⟨w, hw, he⟩
  obtain ⟨j, hj, rfl⟩ := List.mem_take_iff_getElem.1 hw
  exact List.pairwise_iff_getElem.1 h2 j i (by omega) hi (by omega) (of_decide_eq_true he)
theorem uniqV_sub {l m : List ByteArray} {most : Int} (h : uniqV l most = true) (hs : m.Sublist l) : uniqV m most = true := by
 unfold uniqV at h ⊢
 rw [Bool.and_eq_true, decide_eq_true_eq] at h ⊢
 obtain ⟨h1, h2⟩ := (uniqF_iff l).1 h.1
 have := hs.length_le
 exact ⟨(uniqF_iff m).2 ⟨fun s hs' => h1 s (hs.subset hs'), h2.sublist hs⟩, by omega⟩
def lessL {α : Type} (l : List α) (k : Nat) : List α := l.take k ++ l.drop (k + 1)
theorem less_sub {α : Type} (l : List α) (k : Nat) : (lessL l k).Sublist l := by
 have h1 : (l.drop (k + 1)).Sublist (l.drop k) := by
  rw [show k + 1 = k + 1 from rfl, ← List.drop_drop]
  exact List.drop_sublist 1 _
 have h2 := (List.Sublist.refl (l.take k)).append h1
 rw [List.take_append_drop] at h2
 exact h2
abbrev By.less (x : By) (k : Nat) : By := ⟨x.name, lessL x.lets k, x.admit, x.fare, x.late, x.noshow, x.quota, x.share, x.change⟩
abbrev By.nums (x : By) (a : Int) : By := ⟨x.name, x.lets, x.admit, x.fare, x.late, x.noshow, a, 0, 1⟩
theorem less_ok {x : By} (h : x.Ok) (k : Nat) : (x.less k).Ok :=
 ⟨fun q hq => h.lets q ((less_sub x.lets k).subset hq), h.admit, h.fare, h.late, h.noshow, h.quota, h.share, h.change, h.name, uniqV_sub h.uniq ((less_sub x.lets k).map _)⟩
theorem nums_ok {x : By} (h : x.Ok) {a : Int} (ha : 0 ≤ a ∧ a ≤ 255) : (x.nums a).Ok :=
 ⟨h.lets, h.admit, h.fare, h.late, h.noshow, ⟨ha.1, by show a ≤ 1000; omega⟩, ⟨by show (0 : Int) ≤ 0; omega, by show (0 : Int) ≤ 1000; omega⟩, ⟨by show (1 : Int) ≤ 1; omega, by show (1 : Int) ≤ 1000; omega⟩, h.name, h.uniq⟩
theorem less_tame {x : By} (h : x.tame) (k : Nat) : (x.less k).tame :=
 ⟨h.name, Nat.le_trans (less_sub x.lets k).length_le h.len, fun q hq => h.lets q ((less_sub x.lets k).subset hq), h.admit, h.fare, h.late, h.noshow⟩
theorem nums_tame {x : By} (h : x.tame) (a : Int) : (x.nums a).tame := ⟨h.name, h.len, h.lets, h.admit, h.fare, h.late, h.noshow⟩
def By.fore (x : By) : ByteArray := catB (x.head x.lets.length) ++ ⟨#[97, 100, 109, 105, 116, 32]⟩ ++ x.admit.text 0 ++ ⟨#[32, 59, 10, 102, 97, 114, 101, 32]⟩ ++ x.fare.text 0 ++ ⟨#[32, 59, 10, 108, 97, 116, 101, 32]⟩ ++ x.late.text 0 ++ ⟨#[32, 59, 10, 110, 111, 115, 104, 111, 119, 32]⟩ ++ x.noshow.text 0 ++ ⟨#[32, 59, 10]⟩
theorem text_fore (x : By) : x.text = x.fore ++ x.tail := text_ref x
theorem fore_nums (x : By) (a : Int) : (x.nums a).fore = x.fore := rfl
def By.rest (x : By) : List (List ByteArray) := [[w_admit, x.admit.text 0]] ++ [[w_fare, x.fare.text 0]] ++ [[w_late, x.late.text 0]] ++ [[w_noshow, x.noshow.text 0]] ++ [[w_quota, itoaB x.quota]] ++ [[w_share, itoaB x.share]] ++ [[w_change, itoaB x.change]]
theorem lines_of (x : By) : x.lines = [[w_bylaws, x.name]] ++ x.lets.map letL ++ x.rest := by
 unfold By.lines By.head By.rest
 rw [List.take_length]
 simp only [List.append_assoc]
theorem catB_app (a b : List (List ByteArray)) : catB (a ++ b) = catB a ++ catB b := by
 apply ba_ext
 simp [catB, catL_app, ByteArray.data_append]
theorem text_cut (x : By) {k : Nat} (hk : k < x.lets.length) : ∃ p q, x.text = p ++ lineV (letL x.lets[k]) ++ q ∧ (x.less k).text = p ++ q := by
 refine ⟨catB ([[w_bylaws, x.name]] ++ (x.lets.take k).map letL), catB ((x.lets.drop (k + 1)).map letL ++ x.rest), ?_, ?_⟩
 ·show catB x.lines = _
  rw [← catB_one, ← catB_app, ← catB_app, lines_of]
  congr 1
  have h1 : x.lets.map letL = (x.lets.take k).map letL ++ [letL x.lets[k]] ++ (x.lets.drop (k + 1)).map letL := by
   conv => lhs; rw [← List.take_append_drop k x.lets, List.drop_eq_getElem_cons hk]
   simp only [List.map_append, List.map_cons, List.append_assoc, List.cons_append, List.nil_append]
  rw [h1]
  simp only [List.append_assoc]
 ·show catB (x.less k).lines = _
  rw [← catB_app, lines_of]
  congr 1
  show [[w_bylaws, x.name]] ++ (lessL x.lets k).map letL ++ x.rest = _
  unfold lessL
  simp only [List.map_append, List.append_assoc]
theorem ext_left (p q : ByteArray) : (p ++ q).extract 0 p.size = p := by
 apply ba_ext
 simp [ByteArray.data_append, ByteArray.data_extract]
 exact List.take_of_length_le (by rw [Lib.size_eq]; exact Nat.le_refl _)
theorem ext_right (p q : ByteArray) : (p ++ q).extract p.size (p ++ q).size = q := by
 apply ba_ext
 have : p.data.size = p.size := rfl
 have : q.data.size = q.size := rfl
 have h2 : (p ++ q).size = p.size + q.size := ByteArray.size_append
 simp [ByteArray.data_append, ByteArray.data_extract, h2, *]
 rw [List.drop_of_length_le (by rw [Lib.size_eq]; exact Nat.le_refl _), List.take_nil, List.nil_append]
 exact List.take_of_length_le (by rw [Lib.size_eq]; exact Nat.le_refl _)
theorem lacks_any (p m q : ByteArray) (hp : p.size ≤ 4000) (hm : m.size ≤ 4000) (hq : q.size ≤ 4000) : PureC 28 [.str (p ++ m ++ q), .str (p ++ q), .str m] (· = .bool true) := by
 have z1 : (p ++ m ++ q).size = p.size + m.size + q.size := by rw [ByteArray.size_append, ByteArray.size_append]
 have z2 : (p ++ q).size = p.size + q.size := ByteArray.size_append
 have e1 := ext_left p q
 have e2 := ext_right p q
 have q0 : (!decide (((p ++ m ++ q).size : Int) = (p ++ q).size + m.size)) = false := by
  rw [decide_eq_true (show ((p ++ m ++ q).size : Int) = (p ++ q).size + m.size by omega)]
  rfl
 have hgoal : (p ++ q).extract 0 p.size ++ m ++ (p ++ q).extract p.size (p ++ q).size = p ++ m ++ q := by rw [e1, e2]
 clear e1 e2
 generalize p ++ m ++ q = s at z1 q0 hgoal
 generalize p ++ q = t at z2 q0 hgoal
 refine pure_enter Tryz.func28 rfl (by decide) _ Tryz.ntmps28 (le_ok rfl) (fun w Pr hE => ?_)
 dsimp only [slotsOf, Nat.zero_add, Nat.reduceAdd]
 repeat' (first | refine nx ?_ | (apply aq_block_y; decide) | (apply qr_move; refine r_move ?_) | (apply qr_assign; refine r_assign ?_) | (apply at_cond; first | refine c_t ?_ | refine c_f ?_ | (refine aw_cond rfl (fun hb => ?_) (fun hb => ?_) <;> ((try have hq := dX hb); (try (exfalso; omega))))) | (apply qr_neq; refine r_neq ?_) | (apply qr_add; refine r_add ?_) | (apply qr_len; refine r_len ?_))
 refine aw_lp (fun N sl ob => ∃ i : Nat, N = p.size - i ∧ i ≤ p.size ∧ sl = [(7, .d (.int i)), (0, .d (.str s)), (1, .d (.str t)), (2, .d (.str m))] ∧ ob = []) (⟨0, rfl, Nat.zero_le _, rfl, rfl⟩) ?_
 rintro N sl ob ⟨i, rfl, hi, rfl, rfl⟩
 have q1 : decide ((i : Int) ≤ t.size) = true := decide_eq_true (by omega)
 have x1 : (t.extract 0 i).size = i := extract_size (by omega)
 have x2 : (t.extract i t.size).size = t.size - i := extract_size (Nat.le_refl _)
 have x3 : (t.extract 0 i ++ m).size = i + m.size := by rw [ByteArray.size_append, x1]
 cases hc : decide (t.extract 0 i ++ m ++ t.extract i t.size = s)
 ·have hne : i ≠ p.size := fun e => by
   subst e
   exact absurd hgoal (of_decide_eq_false hc)
  repeat' (first | refine nx ?_ | (apply aq_block_y; decide) | (apply qr_move; refine r_move ?_) | (apply at_cond; first | refine c_t ?_ | refine c_f ?_ | (refine aw_cond rfl (fun hb => ?_) (fun hb => ?_) <;> ((try have hq := dX hb); (try (exfalso; omega))))) | (apply qr_leq; refine r_leq ?_) | (apply qr_len; refine r_len ?_))
  refine aw_mixo ([]) [(0, true), (1, true), (2, true), (3, true), (4, true), (5, true), (6, true), (7, true), (8, true), (9, true), (10, true)] [] (by kernel_rfl) (by kernel_rfl) (by kernel_rfl) (by decide) (by (repeat (first | exact obs_nil | (apply obs_cons; focus (first | rfl | (simp [find]; done)))))) ?_
  simp only [planned, tailed, List.filterMap_cons, List.filterMap_nil, List.getElem?_cons_zero, List.getElem?_cons_succ, Option.map_some]
  repeat' (first | apply am_nil | refine m_skip ?_ | refine n_skip ?_ | (apply qm_move; refine m_move ?_) | (apply qm_eql; refine m_eql ?_) | (apply qm_add; refine m_add ?_) | (apply qm_slice; refine m_slice ?_) | (refine am_split rfl rfl (fun hb => ?_) (fun hb => ?_) <;> ((try have hq := dX hb); (try (exfalso; omega)))))
  repeat' (first | refine nx ?_ | (apply aq_block_y; decide) | (apply qr_move; refine r_move ?_) | (apply at_cond; first | refine c_t ?_ | refine c_f ?_ | (refine aw_cond rfl (fun hb => ?_) (fun hb => ?_) <;> ((try have hq := dX hb); (try (exfalso; omega))))) | (apply qr_eql; refine r_eql ?_) | (apply qr_add; refine r_add ?_) | (apply qr_slice; refine r_slice ?_))
  repeat' (first | refine nx ?_ | (apply aq_block_y; decide) | (apply qr_move; refine r_move ?_) | (apply qr_assign; refine r_assign ?_) | (apply at_cond; first | refine c_t ?_ | refine c_f ?_ | (refine aw_cond rfl (fun hb => ?_) (fun hb => ?_) <;> ((try have hq := dX hb); (try (exfalso; omega))))) | (apply qr_add; refine r_add ?_))
  refine aq_rd (⟨i + 1, rfl, by omega, rfl, rfl⟩) (by omega)
 ·skip
  repeat' (first | refine nx ?_ | (apply aq_block_y; decide) | (apply qr_move; refine r_move ?_) | (apply at_cond; first | refine c_t ?_ | refine c_f ?_ | (refine aw_cond rfl (fun hb => ?_) (fun hb => ?_) <;> ((try have hq := dX hb); (try (exfalso; omega))))) | (apply qr_leq; refine r_leq ?_) | (apply qr_len; refine r_len ?_))
  refine aw_mixo ([]) [(0, true), (1, true), (2, true), (3, true), (4, true), (5, true), (6, true), (7, true), (8, true), (9, true), (10, true)] [] (by kernel_rfl) (by kernel_rfl) (by kernel_rfl) (by decide) (by (repeat (first | exact obs_nil | (apply obs_cons; focus (first | rfl | (simp [find]; done)))))) ?_
  simp only [planned, tailed, List.filterMap_cons, List.filterMap_nil, List.getElem?_cons_zero, List.getElem?_cons_succ, Option.map_some]
  repeat' (first | apply am_nil | refine m_skip ?_ | refine n_skip ?_ | (apply qm_move; refine m_move ?_) | (apply qm_eql; refine m_eql ?_) | (apply qm_add; refine m_add ?_) | (apply qm_slice; refine m_slice ?_) | (refine am_split rfl rfl (fun hb => ?_) (fun hb => ?_) <;> ((try have hq := dX hb); (try (exfalso; omega)))))
  repeat' (first | refine nx ?_ | (apply aq_block_y; decide) | (apply qr_move; refine r_move ?_) | (apply qr_assign; refine r_assign ?_) | (apply at_cond; first | refine c_t ?_ | refine c_f ?_ | (refine aw_cond rfl (fun hb => ?_) (fun hb => ?_) <;> ((try have hq := dX hb); (try (exfalso; omega))))) | (apply qr_eql; refine r_eql ?_) | (apply qr_add; refine r_add ?_) | (apply qr_slice; refine r_slice ?_))
  refine rt1 ?_
  rfl
end Go.Proofs.YtedoeogopmenpaaGreatDoor
end
