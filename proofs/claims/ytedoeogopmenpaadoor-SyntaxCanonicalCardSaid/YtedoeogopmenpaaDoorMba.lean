/-
  Conditions: none.
-/
import Derived.Test.YtedoeogopmenpaaDoorRows
import Derived.LaidLaws
import Derived.Handed
import Derived.Lib.LaidTab
import Derived.Stop.LaidErr
import Derived.Test.YtedoeogopmenpaaDoorMay
set_option maxHeartbeats 16000000
set_option maxRecDepth 20000
section
namespace Go.Proofs.YtedoeogopmenpaaDoor
def Tz (t : Tok) : Prop := Tk t ∧ t.p = 0
theorem kw_tk {w : ByteArray} (h : w ∈ [w_if, w_then, w_else, w_not, w_or, w_and, w_cents, w_minutes, w_true, w_false, w_trip, w_member, w_min, w_max, w_let, w_bylaws, w_admit, w_fare, w_late, w_noshow, w_quota, w_share, w_change]) : Tz (wordT w) := by
 refine ⟨tk_word ?_, rfl⟩
 simp only [List.mem_cons, List.not_mem_nil, or_false] at h
 rcases h with rfl | rfl | rfl | rfl | rfl | rfl | rfl | rfl | rfl | rfl | rfl | rfl | rfl | rfl | rfl | rfl | rfl | rfl | rfl | rfl | rfl | rfl | rfl <;> decide
theorem sg_tk {w : ByteArray} (h : w ∈ [w_eq, w_lt, w_plus, w_minus, w_times, w_by, w_lp, w_rp, w_comma, w_semi, w_is]) : Tz (signT w) := by
 simp only [List.mem_cons, List.not_mem_nil, or_false] at h
 rcases h with rfl | rfl | rfl | rfl | rfl | rfl | rfl | rfl | rfl | rfl | rfl <;> exact ⟨tk_sign (by decide) (by decide) (by decide) (by decide), rfl⟩
theorem op_tk {op : Int} {t : Tok} {g : Nat} (h : opInfo op = some (t, g)) : Tz t := by
 rcases opInfo_cases h with ⟨rfl, rfl, rfl⟩ | ⟨rfl, rfl, rfl⟩ | ⟨rfl, rfl, rfl⟩ | ⟨rfl, rfl, rfl⟩ | ⟨rfl, rfl, rfl⟩ | ⟨rfl, rfl, rfl⟩ | ⟨rfl, rfl, rfl⟩ | ⟨rfl, rfl, rfl⟩ <;> first | exact kw_tk (by simp) | exact sg_tk (by simp)
theorem num_tks {n u : Int} (h : numRight n u ⟨#[]⟩ = true) : ∀ t ∈ numToks itoaB n u, Tz t := by
 unfold numRight at h
 simp only [Bool.and_eq_true, decide_eq_true_eq] at h
 obtain ⟨⟨_, hu0, hu3⟩, hn0, hn1⟩ := h
 unfold numToks
 by_cases hu : u = 3
 ·rw [if_pos hu]
  split <;> (intro t ht; obtain rfl := List.mem_singleton.1 ht; exact kw_tk (by simp))
 ·rw [if_neg hu] at hn1 ⊢
  have hk : Tz ⟨1, itoaB n, n, 0⟩ := ⟨tk_num hn0 hn1, rfl⟩
  split
  ·intro t ht
   rcases List.mem_cons.1 ht with rfl | ht
   ·exact hk
   ·obtain rfl := List.mem_singleton.1 ht
    exact kw_tk (by simp)
  ·split
   ·intro t ht
    rcases List.mem_cons.1 ht with rfl | ht
    ·exact hk
    ·obtain rfl := List.mem_singleton.1 ht
     exact kw_tk (by simp)
   ·intro t ht
    obtain rfl := List.mem_singleton.1 ht
    exact hk
theorem all_app {α : Type} {P : α → Prop} {a b : List α} (ha : ∀ x ∈ a, P x) (hb : ∀ x ∈ b, P x) : ∀ x ∈ a ++ b, P x := fun x hx => (List.mem_append.1 hx).elim (ha x) (hb x)
theorem all_cons {α : Type} {P : α → Prop} {a : α} {b : List α} (ha : P a) (hb : ∀ x ∈ b, P x) : ∀ x ∈ a :: b, P x := fun x hx => (List.mem_cons.1 hx).elim (fun e => e ▸ ha) (hb x)
theorem all_nil {α : Type} {P : α → Prop} : ∀ x ∈ ([] : List α), P x := fun x hx => absurd hx (List.not_mem_nil)
theorem toks_tk : ∀ (d : Nat) (e : Ex), e.right d = true → ∀ f, f ≤ 7 → ∀ t ∈ e.toks itoaB f, Tz t
 | 0, e, h => by rw [right_zero] at h; cases h
 | d + 1, e, h => by
  have ih := toks_tk d
  have h0 : ∀ t ∈ e.toks itoaB 0, Tz t := by
   rcases right_shape h with ⟨n, u, rfl, h'⟩ | ⟨op, s, ho, rfl, h'⟩ | ⟨x, rfl, hx⟩ | ⟨x, y, z, rfl, hx, hy, hz⟩ | ⟨op, x, y, ho, rfl, hx, hy⟩ | ⟨op, x, y, t, g, ho, rfl, hx, hy⟩
   ·rw [num_toks _ _ _ _ _ (by omega)]
    exact num_tks h'
   ·rw [leaf_toks _ _ _ _ ho _ (by omega)]
    split
    ·exact all_cons ⟨tk_name h', rfl⟩ all_nil
    ·refine all_cons ?_ (all_cons ⟨tk_name h', rfl⟩ all_nil)
     split <;> exact kw_tk (by simp)
   ·rw [not_toks]
    exact all_cons (kw_tk (by simp)) (ih x hx 3 (by omega))
   ·rw [if_toks]
    exact all_cons (kw_tk (by simp)) (all_app (ih x hx 0 (by omega)) (all_cons (kw_tk (by simp)) (all_app (ih y hy 0 (by omega)) (all_cons (kw_tk (by simp)) (ih z hz 0 (by omega))))))
   ·rw [call_toks ho]
    refine all_cons ?_ (all_cons (sg_tk (by simp)) (all_app (ih x hx 0 (by omega)) (all_cons (sg_tk (by simp)) (all_app (ih y hy 0 (by omega)) (all_cons (sg_tk (by simp)) all_nil)))))
    split <;> exact kw_tk (by simp)
   ·obtain ⟨_, _, g6, _⟩ := op_form ho
    rw [op_toks ho]
    exact all_app (ih x hx _ (by unfold leftV; split <;> omega)) (all_cons (op_tk ho) (ih y hy _ (by omega)))
  intro f hf
  rw [toks_of]
  split
  ·exact all_cons (sg_tk (by simp)) (all_app h0 (all_cons (sg_tk (by simp)) all_nil))
  ·exact h0
theorem right_levels : ∀ (d : Nat) (e : Ex), e.right d = true → e.levels ≤ d
 | 0, e, h => by rw [right_zero] at h; cases h
 | d + 1, e, h => by
  have ih := right_levels d
  rcases right_shape h with ⟨n, u, rfl, h'⟩ | ⟨op, s, ho, rfl, h'⟩ | ⟨x, rfl, hx⟩ | ⟨x, y, z, rfl, hx, hy, hz⟩ | ⟨op, x, y, ho, rfl, hx, hy⟩ | ⟨op, x, y, t, g, ho, rfl, hx, hy⟩
  ·simp only [Ex.levels, Ex.levelsL]; omega
  ·simp only [Ex.levels, Ex.levelsL]; omega
  ·have := ih x hx
   simp only [Ex.levels, Ex.levelsL]; omega
  ·have := ih x hx
   have := ih y hy
   have := ih z hz
   simp only [Ex.levels, Ex.levelsL]; omega
  ·have := ih x hx
   have := ih y hy
   rw [levels_two]; omega
  ·have := ih x hx
   have := ih y hy
   rw [levels_two]; omega
theorem readE_toks {e : Ex} {d : Nat} (h : e.right d = true) {r : List Tok} (hs : Halt 0 r) : readE (e.toks itoaB 0 ++ r) = .ok e r := (body_all d e h).read0 hs (by rw [List.length_append]; omega)
theorem wholeP_toks {e : Ex} (h : e.right 12 = true) (r : List Tok) : wholeP w_semi (e.toks itoaB 0 ++ signT w_semi :: r) = .ok e r := by
 unfold wholeP
 rw [readE_toks h (stop_closer rfl rfl rfl), then_ok]
 unfold behindP
 rw [isT_is (signT w_semi) r (by decide), if_pos rfl, if_pos (right_levels 12 e h)]
 rfl
abbrev numT (n : Int) : Tok := ⟨1, itoaB n, n, 0⟩
def letT (q : ByteArray × Ex) : List Tok := wordT w_let :: wordT q.1 :: signT w_is :: q.2.toks itoaB 0
def partT (w : ByteArray) (e : Ex) : List Tok := wordT w :: e.toks itoaB 0
def lastT (w : ByteArray) (n : Int) : List Tok := [wordT w, numT n]
def By.tl (x : By) : List (List Tok) := [[wordT w_bylaws, wordT x.name]] ++ x.lets.map letT ++ [partT w_admit x.admit] ++ [partT w_fare x.fare] ++ [partT w_late x.late] ++ [partT w_noshow x.noshow] ++ [lastT w_quota x.quota] ++ [lastT w_share x.share] ++ [lastT w_change x.change]
def flatT (ls : List (List Tok)) : List Tok := (ls.map fun l => l ++ [signT w_semi]).flatten
def By.toks (x : By) : List Tok := flatT x.tl
theorem flatT_app (a b : List (List Tok)) : flatT (a ++ b) = flatT a ++ flatT b := by simp [flatT]
theorem flatT_cons (a : List Tok) (b : List (List Tok)) : flatT (a :: b) = a ++ signT w_semi :: flatT b := by simp [flatT]
theorem flatT_nil : flatT [] = [] := rfl
def catT (ls : List (List Tok)) : List UInt8 := (ls.map fun l => (txt l ++ ⟨#[32, 59, 10]⟩).data.toList).flatten
theorem catT_app (a b : List (List Tok)) : catT (a ++ b) = catT a ++ catT b := by simp [catT]
theorem catL_app (a b : List (List ByteArray)) : catL (a ++ b) = catL a ++ catL b := by simp [catL]
theorem catL_one {w : List ByteArray} {t : List Tok} (h : jn w = txt t) : catL [w] = catT [t] := by simp [catL, catT, lineV, h]
theorem catL_map {α : Type} {f : α → List ByteArray} {g : α → List Tok} : ∀ {l : List α}, (∀ a ∈ l, jn (f a) = txt (g a)) → catL (l.map f) = catT (l.map g)
 | [], _ => rfl
 | a :: r, h => by
  have e1 : List.map f (a :: r) = [f a] ++ r.map f := rfl
  have e2 : List.map g (a :: r) = [g a] ++ r.map g := rfl
  rw [e1, e2, catL_app, catT_app, catL_one (h a (by simp)), catL_map fun b hb => h b (List.mem_cons_of_mem _ hb)]
theorem jn_part {w : ByteArray} {e : Ex} {d : Nat} (h : e.right d = true) : jn [w, e.text 0] = txt (partT w e) := by
 rw [partT, txt_cons _ (toks_ne h 0), jn_two, jn_one]
 rfl
theorem jn_let {q : ByteArray × Ex} {d : Nat} (h : q.2.right d = true) : jn (letL q) = txt (letT q) := by
 rw [letT, letL, txt_cons _ (by simp), txt_cons _ (by simp), txt_cons _ (toks_ne h 0), jn_two, jn_two, jn_two, jn_one]
 rfl
theorem jn_last (w : ByteArray) (n : Int) : jn [w, itoaB n] = txt (lastT w n) := rfl
theorem catL_tl {x : By} (h : x.Ok) : catL x.lines = catT x.tl := by
 unfold By.lines By.tl By.head
 simp only [catL_app, catT_app, List.take_length]
 rw [catL_map (g := letT) fun q hq => jn_let (h.lets q hq), catL_one (jn_part h.admit), catL_one (jn_part h.fare), catL_one (jn_part h.late), catL_one (jn_part h.noshow), catL_one (jn_last w_quota _), catL_one (jn_last w_share _), catL_one (jn_last w_change _)]
 rfl
theorem catT_laid : ∀ {ls : List (List Tok)}, (∀ l ∈ ls, l ≠ [] ∧ ∀ t ∈ l, Tz t) → LaidC (catT ls) (flatT ls)
 | [], _ => .nil
 | l :: r, h => by
  obtain ⟨h1, h2⟩ := h l (by simp)
  have e1 : catT (l :: r) = ((txt l).data.toList ++ [32]) ++ ((signT w_semi).s.data.toList ++ 10 :: catT r) := by
   simp [catT, ByteArray.data_append]
  have e2 : flatT (l :: r) = l ++ (signT w_semi :: flatT r) := flatT_cons l r
  rw [e1, e2]
  exact (txt_close h1 (fun t ht => (h2 t ht).1) rfl).app (.cons (sg_tk (by simp)).1 rfl (catT_laid fun m hm => h m (List.mem_cons_of_mem _ hm)))
theorem uniqA_at {l : List ByteArray} {i : Nat} {most : Int} (h : uniqV l most = true) (hi : i < l.length) : uniqA l i = true := by
 unfold uniqV at h
 rw [Bool.and_eq_true] at h
 have := h.1
 unfold uniqF at this
 exact List.all_eq_true.1 this i (List.mem_range.2 hi)
theorem let_name {x : By} (h : x.Ok) {q : ByteArray × Ex} (hq : q ∈ x.lets) : nameV q.1 = true := by
 obtain ⟨i, hi, rfl⟩ := List.getElem_of_mem hq
 have := uniqA_at h.uniq (i := i) (by simpa using hi)
 unfold uniqA at this
 rw [Bool.and_eq_true] at this
 have h1 := this.1
 rw [getD_at (by simpa using hi)] at h1
 simpa using h1
theorem tl_ok {x : By} (h : x.Ok) : ∀ l ∈ x.tl, l ≠ [] ∧ ∀ t ∈ l, Tz t := by
 have hp : ∀ {w e}, Tz (wordT w) → Ex.right e 12 = true → partT w e ≠ [] ∧ ∀ t ∈ partT w e, Tz t := fun hw he => ⟨by simp [partT], all_cons hw (toks_tk 12 _ he 0 (by omega))⟩
 have hn : ∀ {w n}, Tz (wordT w) → 0 ≤ n ∧ n ≤ 1000 → lastT w n ≠ [] ∧ ∀ t ∈ lastT w n, Tz t := fun hw hn => ⟨by simp [lastT], all_cons hw (all_cons ⟨tk_num hn.1 (by omega), rfl⟩ all_nil)⟩
 have hone : ∀ {P : List Tok → Prop} {a : List Tok}, P a → ∀ l ∈ [a], P l := fun ha => all_cons ha all_nil
 unfold By.tl
 refine all_app (all_app (all_app (all_app (all_app (all_app (all_app (all_app (hone ⟨by simp, all_cons (kw_tk (by simp)) (all_cons ⟨tk_name h.name, rfl⟩ all_nil)⟩) ?_) (hone (hp (kw_tk (by simp)) h.admit))) (hone (hp (kw_tk (by simp)) h.fare))) (hone (hp (kw_tk (by simp)) h.late))) (hone (hp (kw_tk (by simp)) h.noshow))) (hone (hn (kw_tk (by simp)) h.quota))) (hone (hn (kw_tk (by simp)) h.share))) (hone (hn (kw_tk (by simp)) (by have := h.change; omega)))
 intro l hl
 obtain ⟨q, hq, rfl⟩ := List.mem_map.1 hl
 exact ⟨by simp [letT], all_cons (kw_tk (by simp)) (all_cons ⟨tk_name (let_name h hq), rfl⟩ (all_cons (sg_tk (by simp)) (toks_tk 12 _ (h.lets q hq) 0 (by omega))))⟩
theorem by_laid {x : By} (h : x.Ok) : LaidC (catL x.lines) x.toks := by
 rw [catL_tl h]
 exact catT_laid (tl_ok h)
theorem letsP_toks : ∀ (ls2 : List (ByteArray × Ex)) (k : Nat) (ls : List (ByteArray × Ex)) (r : List Tok), (∀ q ∈ ls2, Ex.right q.2 12 = true) → uniqV ((ls ++ ls2).map (·.1)) 20 = true → isT r w_let = false → ls2.length < k → letsP k ls (flatT (ls2.map letT) ++ r) = .ok (ls ++ ls2) r
 | [], k + 1, ls, r, _, _, hr, _ => by
  simp only [List.map_nil, flatT_nil, List.nil_append, letsP, hr, Bool.false_eq_true, if_false, List.append_nil]
 | q :: ls2, k + 1, ls, r, he, hu, hr, hk => by
  have hlen : ls.length < 20 := by
   have h1 := hu
   unfold uniqV at h1
   rw [Bool.and_eq_true, decide_eq_true_eq] at h1
   have := h1.2
   simp only [List.length_map, List.length_append, List.length_cons] at this
   omega
  have hA := uniqA_at hu (i := ls.length) (by simp)
  unfold uniqA at hA
  rw [getD_at (by simp)] at hA
  simp only [List.map_append, List.map_cons] at hA
  rw [List.getElem_append_right (by simp), List.take_append_of_le_length (by simp), List.take_of_length_le (by simp)] at hA
  simp only [List.length_map, Nat.sub_self, List.getElem_cons_zero, Bool.and_eq_true, Bool.not_eq_true'] at hA
  have e0 : flatT (List.map letT (q :: ls2)) ++ r = wordT w_let :: wordT q.1 :: signT w_is :: (q.2.toks itoaB 0 ++ signT w_semi :: (flatT (ls2.map letT) ++ r)) := by
   simp [flatT, letT]
  rw [e0]
  simp only [letsP]
  rw [isT_is (wordT w_let) _ (by decide), if_pos rfl, if_pos hlen]
  have hf : freshP (ls.map (·.1)) ((wordT w_let :: wordT q.1 :: signT w_is :: (q.2.toks itoaB 0 ++ signT w_semi :: (flatT (ls2.map letT) ++ r))).drop 1) = .ok q.1 (signT w_is :: (q.2.toks itoaB 0 ++ signT w_semi :: (flatT (ls2.map letT) ++ r))) := by
   unfold freshP
   rw [List.drop_succ_cons, List.drop_zero, nxt_cons, if_pos ⟨rfl, hA.1⟩, hA.2]
   rfl
  rw [hf, then_ok, want_is (t := signT w_is) (by decide), then_ok, wholeP_toks (he q (by simp)), then_ok]
  rw [letsP_toks ls2 k (ls ++ [(q.1, q.2)]) r (fun p hp => he p (List.mem_cons_of_mem _ hp)) (by simpa using hu) hr (by simpa using hk)]
  simp
theorem partsP_toks (w : ByteArray) (ws : List ByteArray) (es : List Ex) {e : Ex} (h : e.right 12 = true) (r : List Tok) : partsP (w :: ws) es (partT w e ++ signT w_semi :: r) = partsP ws (es ++ [e]) r := by
 have e0 : partT w e ++ signT w_semi :: r = wordT w :: (e.toks itoaB 0 ++ signT w_semi :: r) := rfl
 rw [e0]
 simp only [partsP]
 rw [want_is (t := wordT w) (by exact (by decide : (0 : Int) ≠ 3)), then_ok, wholeP_toks h, then_ok]
theorem partP_toks (w : ByteArray) {a b n : Int} (h1 : a ≤ n) (h2 : n ≤ b) (r : List Tok) : partP w a b (lastT w n ++ signT w_semi :: r) = .ok n r := by
 have e0 : lastT w n ++ signT w_semi :: r = wordT w :: numT n :: signT w_semi :: r := rfl
 rw [e0]
 unfold partP
 rw [want_is (t := wordT w) (by exact (by decide : (0 : Int) ≠ 3)), then_ok]
 have : numP a b (numT n :: signT w_semi :: r) = .ok n (signT w_semi :: r) := by
  unfold numP
  rw [nxt_cons, if_pos rfl, if_pos ⟨h1, h2⟩]
  rfl
 rw [this, then_ok, want_is (t := signT w_semi) (by decide), then_ok]
theorem bylawsP_toks {x : By} (h : x.Ok) {r : List Tok} (hr : (nxt r).k = 3) : bylawsP (x.toks ++ r) = .ok x r := by
 have e0 : x.toks ++ r = wordT w_bylaws :: wordT x.name :: signT w_semi :: (flatT (x.lets.map letT) ++ (partT w_admit x.admit ++ signT w_semi :: (partT w_fare x.fare ++ signT w_semi :: (partT w_late x.late ++ signT w_semi :: (partT w_noshow x.noshow ++ signT w_semi :: (lastT w_quota x.quota ++ signT w_semi :: (lastT w_share x.share ++ signT w_semi :: (lastT w_change x.change ++ signT w_semi :: r)))))))) := by
  unfold By.toks By.tl
  simp only [flatT_app, flatT_cons, flatT_nil, List.append_assoc, List.cons_append, List.nil_append]
 rw [e0]
 unfold bylawsP
 rw [want_is (t := wordT w_bylaws) (by decide), then_ok]
 have hn : nameP nameV (wordT x.name :: signT w_semi :: (flatT (x.lets.map letT) ++ (partT w_admit x.admit ++ signT w_semi :: (partT w_fare x.fare ++ signT w_semi :: (partT w_late x.late ++ signT w_semi :: (partT w_noshow x.noshow ++ signT w_semi :: (lastT w_quota x.quota ++ signT w_semi :: (lastT w_share x.share ++ signT w_semi :: (lastT w_change x.change ++ signT w_semi :: r))))))))) = .ok x.name (signT w_semi :: (flatT (x.lets.map letT) ++ (partT w_admit x.admit ++ signT w_semi :: (partT w_fare x.fare ++ signT w_semi :: (partT w_late x.late ++ signT w_semi :: (partT w_noshow x.noshow ++ signT w_semi :: (lastT w_quota x.quota ++ signT w_semi :: (lastT w_share x.share ++ signT w_semi :: (lastT w_change x.change ++ signT w_semi :: r))))))))) := by
  unfold nameP
  rw [nxt_cons, if_pos ⟨rfl, h.name⟩]
  rfl
 rw [hn, then_ok, want_is (t := signT w_semi) (by decide), then_ok]
 have hlen : x.lets.length < (flatT (x.lets.map letT) ++ (partT w_admit x.admit ++ signT w_semi :: (partT w_fare x.fare ++ signT w_semi :: (partT w_late x.late ++ signT w_semi :: (partT w_noshow x.noshow ++ signT w_semi :: (lastT w_quota x.quota ++ signT w_semi :: (lastT w_share x.share ++ signT w_semi :: (lastT w_change x.change ++ signT w_semi :: r)))))))).length + 1 := by
  have : ∀ l : List (ByteArray × Ex), l.length ≤ (flatT (l.map letT)).length := fun l => by
   induction l with
   | nil => exact Nat.le_refl _
   | cons q l ih =>
    rw [List.map_cons, flatT_cons, List.length_append, List.length_cons, List.length_cons]
    omega
  have := this x.lets
  rw [List.length_append]
  omega
 rw [letsP_toks x.lets _ [] _ h.lets h.uniq rfl hlen, then_ok, List.nil_append]
 rw [partsP_toks _ _ _ h.admit, partsP_toks _ _ _ h.fare, partsP_toks _ _ _ h.late, partsP_toks _ _ _ h.noshow]
 simp only [partsP, then_ok]
 unfold numsP
 rw [partP_toks _ h.quota.1 h.quota.2, then_ok, partP_toks _ h.share.1 h.share.2, then_ok, partP_toks _ h.change.1 h.change.2, then_ok]
 unfold lastP
 rw [if_pos hr]
 rfl
theorem lay_mv : ∀ (q : Nat) (l : List Tok), (∀ t ∈ l, t.p = 0) → (lay q l).map (mv fun _ => 0) = l
 | _, [], _ => rfl
 | q, t :: r, h => by
  rw [lay, List.map_cons, lay_mv _ r fun x hx => h x (List.mem_cons_of_mem _ hx)]
  have := h t (by simp)
  obtain ⟨k, s, n, p⟩ := t
  simp only at this
  subst this
  rfl
theorem flat_zero {ls : List (List Tok)} (h : ∀ l ∈ ls, l ≠ [] ∧ ∀ t ∈ l, Tz t) : ∀ t ∈ flatT ls, t.p = 0 := by
 intro t ht
 unfold flatT at ht
 obtain ⟨m, hm, ht⟩ := List.mem_flatten.1 ht
 obtain ⟨l, hl, rfl⟩ := List.mem_map.1 hm
 rcases List.mem_append.1 ht with ht | ht
 ·exact ((h l hl).2 t ht).2
 ·obtain rfl := List.mem_singleton.1 ht
  rfl
theorem parse_laid {x : By} (h : x.Ok) {bs : List UInt8} (hl : LaidL bs x.toks) (hs : bs.length ≤ 4000) : parseV (B bs) = (x, 0, 0) := by
 have h1 := laid_lex hl hs
 have hp : ∀ t ∈ x.toks, t.p = 0 := flat_zero (tl_ok h)
 have h2 : (lay 0 x.toks ++ [endTok bs.length]).map (mv fun _ => 0) = x.toks ++ [endTok 0] := by
  rw [List.map_append, lay_mv 0 _ hp]
  rfl
 have h3 := bylawsP_toks h (r := [endTok 0]) rfl
 rw [← h2] at h3
 obtain ⟨u, h4, _⟩ := mv_ok (bylawsP_mv rfl _) h3
 unfold parseV
 rw [h1]
 simp only [if_true, h4]
end Go.Proofs.YtedoeogopmenpaaDoor
end
section
namespace Go.Proofs.YtedoeogopmenpaaDoor
def NZ {α : Type} (x : Rd α) : Prop := ∀ p e, x = .bad p e → e ≠ 0
theorem nz_ok {α : Type} {a : α} {r : List Tok} : NZ (.ok a r) := fun p e h => by cases h
theorem nz_bad {α : Type} {p e : Int} (h : e ≠ 0) : NZ (.bad p e : Rd α) := fun q f k => by cases k; exact h
theorem nz_then {α β : Type} {x : Rd α} {f : α → List Tok → Rd β} (hx : NZ x) (hf : ∀ a r, x = .ok a r → NZ (f a r)) : NZ (x.then f) := by
 cases x with
 | ok a r => exact hf a r rfl
 | bad p e => exact fun q c h => by cases h; exact hx p e rfl
theorem nz_ite {α : Type} {c : Prop} [Decidable c] {a b : Rd α} (ha : c → NZ a) (hb : ¬ c → NZ b) : NZ (if c then a else b) := by
 split
 ·exact ha ‹_›
 ·exact hb ‹_›
theorem nz_want {l : List Tok} {s : ByteArray} : NZ (want l s) := nz_ite (fun _ => nz_ok) (fun _ => nz_bad (by decide))
theorem nz_name {l : List Tok} : NZ (nameP nameV l) := nz_ite (fun _ => nz_ok) (fun _ => nz_bad (by decide))
section
variable {rec : Nat → List Tok → Rd Ex} (hr : ∀ f l, Ends l → NZ (rec f l)) (hs : ∀ f l e t, rec f l = .ok e t → Suf l t)
include hr hs
theorem nz_both {op : Int} {l : List Tok} (h : Ends l) : NZ (both rec op l) := by
 unfold both
 refine nz_then nz_want fun _ u h1 => ?_
 have e1 := h.suf (suf_want h1)
 refine nz_then (hr 0 u e1) fun a v h2 => nz_then nz_want fun _ z h3 => ?_
 have e2 := (e1.suf (hs _ _ _ _ h2)).suf (suf_want h3)
 exact nz_then (hr 0 z e2) fun b _ _ => nz_then nz_want fun _ _ _ => nz_ok
theorem nz_prim {l : List Tok} (h : Ends l) : NZ (primP nameV rec l) := by
 unfold primP
 refine nz_ite (fun _ => nz_ok) fun _ => nz_ite (fun _ => nz_ok) fun _ => nz_ite (fun _ => nz_ok) fun _ => nz_ite (fun _ => nz_then nz_name fun _ _ _ => nz_ok) fun _ => nz_ite (fun _ => nz_then nz_name fun _ _ _ => nz_ok) fun _ => nz_ite (fun hT => nz_both hr hs (h.suf (suf_is hT))) fun _ => nz_ite (fun hT => nz_both hr hs (h.suf (suf_is hT))) fun _ => nz_ite (fun hT => nz_then (hr 0 _ (h.suf (suf_is hT))) fun _ _ _ => nz_then nz_want fun _ _ _ => nz_ok) fun _ => nz_then nz_name fun _ _ _ => nz_ok
theorem nz_prfx {f : Nat} {l : List Tok} (h : Ends l) : NZ (prfx (primP nameV) ifP notP rec f l) := by
 unfold prfx
 split
 ·rename_i r hi
  refine nz_then ?_ fun _ _ _ => nz_ok
  split at hi
  ·unfold ifP at hi
   split at hi
   ·rename_i hT
    injection hi with hi
    subst hi
    have e0 := h.suf (suf_is hT)
    refine nz_then (hr 0 _ e0) fun a u h1 => nz_then nz_want fun _ v h2 => ?_
    have e1 := (e0.suf (hs _ _ _ _ h1)).suf (suf_want h2)
    refine nz_then (hr 0 _ e1) fun b z h3 => nz_then nz_want fun _ y h4 => ?_
    exact nz_then (hr 0 _ ((e1.suf (hs _ _ _ _ h3)).suf (suf_want h4))) fun _ _ _ => nz_ok
   ·cases hi
  ·cases hi
 ·split
  ·rename_i r hi
   refine nz_then ?_ fun _ _ _ => nz_ok
   split at hi
   ·unfold notP at hi
    split at hi
    ·rename_i hT
     injection hi with hi
     subst hi
     exact nz_then (hr 3 _ (h.suf (suf_is hT))) fun _ _ _ => nz_ok
    ·cases hi
   ·cases hi
  ·exact nz_then (nz_prim hr hs h) fun _ _ _ => nz_ok
theorem nz_ploop (f : Nat) : ∀ (k own : Nat) (e : Ex) (l : List Tok), Ends l → NZ (ploop symP rec f k own e l)
 | 0, _, _, _, _ => nz_ok
 | k + 1, own, e, l, h => by
  simp only [ploop]
  cases hq : symP l with
  | none => exact nz_ok
  | some q =>
   obtain ⟨op, g⟩ := q
   simp only
   refine nz_ite (fun _ => nz_ok) fun _ => ?_
   obtain ⟨w, hw⟩ := sym_is hq
   have e1 := h.suf (suf_is hw)
   exact nz_then (hr _ _ e1) fun x t h1 => nz_ploop f k g _ t (e1.suf (hs _ _ _ _ h1))
end
theorem nz_rd : ∀ (n f : Nat) (l : List Tok), Ends l → NZ (rdE n f l)
 | 0, f, l, h => nz_bad (by have := h.pos; omega)
 | n + 1, f, l, h => by
  rw [show rdE (n + 1) f l = (prfx (primP nameV) ifP notP (rdE n) f l).then fun x t => ploop symP (rdE n) f (t.length + 1) x.2 x.1 t from rfl]
  have hs : ∀ f l e t, rdE n f l = .ok e t → Suf l t := fun f l e t h => rd_suf h
  refine nz_then (nz_prfx (nz_rd n) hs h) fun x t h1 => nz_ploop (nz_rd n) hs f _ _ _ t (h.suf ?_)
  obtain ⟨e, o⟩ := x
  exact (prfx_sound (fun f l e t h => rd_sound n f l e t h) h1).suf
theorem nz_num {a b : Int} {l : List Tok} : NZ (numP a b l) := nz_ite (fun _ => nz_ite (fun _ => nz_ok) (fun _ => nz_bad (by decide))) (fun _ => nz_bad (by decide))
theorem nz_part {w : ByteArray} {a b : Int} {l : List Tok} : NZ (partP w a b l) := nz_then nz_want fun _ _ _ => nz_then nz_num fun _ _ _ => nz_then nz_want fun _ _ _ => nz_ok
theorem nz_whole {w : ByteArray} {l : List Tok} (h : Ends l) : NZ (wholeP w l) := nz_then (nz_rd _ _ _ h) fun _ _ _ => nz_ite (fun _ => nz_ite (fun _ => nz_ok) (fun _ => nz_bad (by decide))) (fun _ => nz_bad (by decide))
theorem nz_fresh {o : List ByteArray} {l : List Tok} : NZ (freshP o l) := nz_ite (fun _ => nz_ite (fun _ => nz_bad (by decide)) (fun _ => nz_ok)) (fun _ => nz_bad (by decide))
theorem nz_lets : ∀ (k : Nat) (ls : List (ByteArray × Ex)) (l : List Tok), Ends l → NZ (letsP k ls l)
 | 0, _, _, _ => nz_ok
 | k + 1, ls, l, h => by
  simp only [letsP]
  refine nz_ite (fun hT => nz_ite (fun _ => ?_) (fun _ => nz_bad (by decide))) (fun _ => nz_ok)
  refine nz_then nz_fresh fun s u h1 => nz_then nz_want fun _ v h2 => ?_
  have e1 := ((h.suf (suf_is hT)).suf (freshP_suf h1)).suf (suf_want h2)
  exact nz_then (nz_whole e1) fun e z h3 => nz_lets k _ z (e1.suf (wholeP_suf h3))
theorem nz_parts : ∀ (ws : List ByteArray) (es : List Ex) (l : List Tok), Ends l → NZ (partsP ws es l)
 | [], _, _, _ => nz_ok
 | w :: ws, es, l, h => nz_then nz_want fun _ u h1 => nz_then (nz_whole (h.suf (suf_want h1))) fun e z h2 => nz_parts ws _ z ((h.suf (suf_want h1)).suf (wholeP_suf h2))
theorem nz_bylaws {l : List Tok} (h : Ends l) : NZ (bylawsP l) := by
 unfold bylawsP
 refine nz_then nz_want fun _ u h1 => nz_then nz_name fun nm v h2 => nz_then nz_want fun _ z h3 => ?_
 have e1 := ((h.suf (suf_want h1)).suf (suf_name h2)).suf (suf_want h3)
 refine nz_then (nz_lets _ _ z e1) fun ls y h4 => nz_then (nz_parts _ _ y (e1.suf (letsP_suf _ _ _ h4))) fun es q _ => ?_
 exact nz_then nz_part fun _ _ _ => nz_then nz_part fun _ _ _ => nz_then nz_part fun _ _ _ => nz_ite (fun _ => nz_ok) (fun _ => nz_bad (by decide))
theorem nz_all {l : List Tok} (h : Ends l) : NZ (allP l) := nz_then (nz_rd _ _ _ h) fun _ _ _ => nz_ite (fun _ => nz_ite (fun _ => nz_ok) (fun _ => nz_bad (by decide))) (fun _ => nz_bad (by decide))
theorem lexOk_at {s : ByteArray} {p : Nat} {l : List Tok} (h : LexOk s p l) : ∀ t ∈ l, 0 ≤ t.p ∧ t.p ≤ (s.size : Int) := by
 induction h with
 | stop p hp h =>
  intro x hx
  obtain rfl := List.mem_singleton.1 hx
  simp only [endTok]
  omega
 | tok p t l hp h ht hl ih =>
  have h3 := skip_le hp
  obtain ⟨q1, _⟩ := tokenV_form (by omega) ht
  intro x hx
  rcases List.mem_cons.1 hx with rfl | hx
  ·omega
  ·exact ih x hx
theorem uniqF_snoc {l : List ByteArray} {s : ByteArray} (h : uniqF l = true) (hn : nameV s = true) (ha : l.any (fun w => decide (w = s)) = false) : uniqF (l ++ [s]) = true := by
 refine uniq_yes fun i hi => ?_
 rw [List.length_append, List.length_singleton] at hi
 unfold uniqA
 by_cases h1 : i < l.length
 ·have h2 := h
  unfold uniqF at h2
  have h3 := List.all_eq_true.1 h2 i (List.mem_range.2 h1)
  unfold uniqA at h3
  rw [getD_at h1] at h3
  rw [getD_at (by simp; omega), List.getElem_append_left h1, List.take_append_of_le_length (by omega)]
  exact h3
 ·obtain rfl : i = l.length := by omega
  rw [getD_at (by simp), List.getElem_append_right (Nat.le_refl _), List.take_append_of_le_length (Nat.le_refl _), List.take_length]
  simp only [Nat.sub_self, List.getElem_cons_zero, hn, ha]
  rfl
theorem whole_right {after : ByteArray} {l t : List Tok} {e : Ex} (h : wholeP after l = .ok e t) (hn : NumsIn l) : e.right 12 = true := by
 obtain ⟨u, h1, _, h2, _⟩ := wholeP_ok h
 obtain ⟨o, hd⟩ := readE_der h1
 exact hd.right hn 12 h2
theorem lets_right : ∀ (k : Nat) (ls : List (ByteArray × Ex)) (l : List Tok) {r : List (ByteArray × Ex)} {t : List Tok}, letsP k ls l = .ok r t → NumsIn l → (∀ q ∈ ls, Ex.right q.2 12 = true) → uniqV (ls.map (·.1)) 20 = true → (∀ q ∈ r, Ex.right q.2 12 = true) ∧ uniqV (r.map (·.1)) 20 = true
 | 0, ls, l, r, t, h, _, h1, h2 => by cases h; exact ⟨h1, h2⟩
 | k + 1, ls, l, r, t, h, hn, h1, h2 => by
  simp only [letsP] at h
  split at h
  ·rename_i hT
   split at h
   ·rename_i h20
    obtain ⟨s, u1, k1, g1⟩ := then_less h
    obtain ⟨_, u2, k2, g2⟩ := then_less g1
    obtain ⟨e, u3, k3, g3⟩ := then_less g2
    have n2 := ((hn.suf (suf_is hT)).suf (freshP_suf k1)).suf (suf_want k2)
    obtain ⟨_, f2, _, f4, _⟩ := freshP_ok k1
    refine lets_right k _ _ g3 (n2.suf (wholeP_suf k3)) (fun q hq => ?_) ?_
    ·rcases List.mem_append.1 hq with hq | hq
     ·exact h1 q hq
     ·obtain rfl := List.mem_singleton.1 hq
      exact whole_right k3 n2
    ·unfold uniqV at h2 ⊢
     rw [Bool.and_eq_true] at h2 ⊢
     rw [List.map_append]
     refine ⟨uniqF_snoc h2.1 f2 f4, decide_eq_true ?_⟩
     simp
     omega
   ·cases h
  ·cases h
   exact ⟨h1, h2⟩
theorem parts_right : ∀ (ws : List ByteArray) (es : List Ex) (l : List Tok) {r : List Ex} {t : List Tok}, partsP ws es l = .ok r t → NumsIn l → (∀ e ∈ es, Ex.right e 12 = true) → (∀ e ∈ r, Ex.right e 12 = true) ∧ r.length = es.length + ws.length
 | [], es, l, r, t, h, _, h1 => by cases h; exact ⟨h1, rfl⟩
 | w :: ws, es, l, r, t, h, hn, h1 => by
  simp only [partsP] at h
  obtain ⟨_, u1, k1, g1⟩ := then_less h
  obtain ⟨e, u2, k2, g2⟩ := then_less g1
  have n1 := hn.suf (suf_want k1)
  obtain ⟨q1, q2⟩ := parts_right ws _ _ g2 (n1.suf (wholeP_suf k2)) (fun q hq => by
   rcases List.mem_append.1 hq with hq | hq
   ·exact h1 q hq
   ·obtain rfl := List.mem_singleton.1 hq
    exact whole_right k2 n1)
  exact ⟨q1, by rw [q2]; simp; omega⟩
theorem part_in {w : ByteArray} {a b n : Int} {l t : List Tok} (h : partP w a b l = .ok n t) : a ≤ n ∧ n ≤ b := by
 obtain ⟨_, u1, h1, g1⟩ := then_less h
 obtain ⟨m, u2, h2, g2⟩ := then_less g1
 obtain ⟨_, u3, h3, g3⟩ := then_less g2
 cases g3
 obtain ⟨_, _, k1, k2, _⟩ := numP_ok h2
 exact ⟨k1, k2⟩
theorem ok_right {x : By} (h : x.Ok) : x.right = true := by
 rw [right_ref]
 simp only [Bool.and_eq_true, withV_iff, List.all_eq_true]
 exact ⟨h.name, h.admit, h.fare, h.late, h.noshow, h.quota, h.share, h.change, h.lets, h.uniq⟩
theorem bylaws_right {l t : List Tok} {x : By} (h : bylawsP l = .ok x t) (hn : NumsIn l) : x.Ok := by
 unfold bylawsP at h
 obtain ⟨_, u1, h1, g1⟩ := then_less h
 obtain ⟨nm, u2, h2, g2⟩ := then_less g1
 obtain ⟨_, u3, h3, g3⟩ := then_less g2
 obtain ⟨ls, u4, h4, g4⟩ := then_less g3
 obtain ⟨es, u5, h5, g5⟩ := then_less g4
 have n3 := ((hn.suf (suf_want h1)).suf (suf_name h2)).suf (suf_want h3)
 obtain ⟨k1, k2⟩ := lets_right _ _ _ h4 n3 (by simp) rfl
 obtain ⟨m1, m2⟩ := parts_right _ _ _ h5 (n3.suf (letsP_suf _ _ _ h4)) (by simp)
 have he : ∀ i, i < 4 → (es.getD i Ex.zero).right 12 = true := fun i hi => by
  rw [List.getD_eq_getElem?_getD, List.getElem?_eq_getElem (by rw [m2]; exact hi)]
  exact m1 _ (List.getElem_mem _)
 unfold numsP at g5
 obtain ⟨q, u6, h6, g6⟩ := then_less g5
 obtain ⟨s, u7, h7, g7⟩ := then_less g6
 obtain ⟨c, u8, h8, g8⟩ := then_less g7
 obtain ⟨_, hname, rfl, _⟩ := nameP_ok h2
 unfold lastP at g8
 split at g8
 ·cases g8
  exact ⟨k1, he 0 (by omega), he 1 (by omega), he 2 (by omega), he 3 (by omega), part_in h6, part_in h7, part_in h8, hname, k2⟩
 ·cases g8
theorem parse_said (s : ByteArray) (hs : s.size ≤ 4000) : (0 ≤ (parseV s).2.1 ∧ (parseV s).2.1 ≤ (s.size : Int)) ∧ (((parseV s).2.2 = 0 ∧ (parseV s).2.1 = 0 ∧ (parseV s).1.Ok) ∨ ((parseV s).2.2 ≠ 0 ∧ (parseV s).1 = By.zero)) := by
 unfold parseV
 rcases lexV_case hs with ⟨L, h1, h2⟩ | ⟨a, e, h1, h2, h3⟩
 ·rw [h2]
  simp only [if_true]
  obtain ⟨_, _, _, he, _, _, hn⟩ := lex_ready h2
  cases hb : bylawsP L with
  | ok x t => exact ⟨⟨Int.le_refl _, by simp only; omega⟩, .inl ⟨rfl, rfl, bylaws_right hb hn⟩⟩
  | bad p c => exact ⟨bylaws_at (by omega) (lexOk_at h1) hb, .inr ⟨nz_bylaws he p c hb, rfl⟩⟩
 ·rw [h3]
  simp only [if_neg h2]
  have := h1.le
  exact ⟨⟨by omega, by omega⟩, .inr ⟨h2, trivial⟩⟩
theorem parseE_said (s : ByteArray) (hs : s.size ≤ 4000) : (0 ≤ (parseEV s).2.1 ∧ (parseEV s).2.1 ≤ (s.size : Int)) ∧ (((parseEV s).2.2 = 0 ∧ (parseEV s).2.1 = 0 ∧ (parseEV s).1.right 12 = true) ∨ ((parseEV s).2.2 ≠ 0 ∧ (parseEV s).1 = Ex.zero)) := by
 unfold parseEV
 rcases lexV_case hs with ⟨L, h1, h2⟩ | ⟨a, e, h1, h2, h3⟩
 ·rw [h2]
  simp only [if_true]
  obtain ⟨_, _, _, he, _, _, hn⟩ := lex_ready h2
  cases hb : allP L with
  | ok x t =>
   refine ⟨⟨Int.le_refl _, by simp only; omega⟩, .inl ⟨rfl, rfl, ?_⟩⟩
   unfold allP at hb
   obtain ⟨e, u, k1, k2⟩ := then_less hb
   obtain ⟨o, hd⟩ := readE_der k1
   split at k2
   ·split at k2
    ·rename_i h12
     cases k2
     exact hd.right hn 12 h12
    ·cases k2
   ·cases k2
  | bad p c => exact ⟨all_at (by omega) (lexOk_at h1) hb, .inr ⟨nz_all he p c hb, rfl⟩⟩
 ·rw [h3]
  simp only [if_neg h2]
  have := h1.le
  exact ⟨⟨by omega, by omega⟩, .inr ⟨h2, trivial⟩⟩
end Go.Proofs.YtedoeogopmenpaaDoor
end
section
set_option linter.unusedSimpArgs false
set_option linter.unusedVariables false
namespace Go.Proofs.YtedoeogopmenpaaDoor
open Go.RowKit
def spreadV (s : ByteArray) : ByteArray := B (s.data.toList.map spB)
def spL (l : List UInt8) (i : Nat) : List UInt8 := (l.take i).map spB ++ l.drop i
theorem spL_len (l : List UInt8) (i : Nat) : (spL l i).length = l.length := by
 unfold spL
 rw [List.length_append, List.length_map, List.length_take, List.length_drop]
 omega
theorem spL_at {l : List UInt8} {i : Nat} (h : i < l.length) : (bytV (spL l i))[i]? = some (.int .u8 ((l[i]).toNat : Int)) := by
 have : (spL l i)[i]? = some l[i] := by
  unfold spL
  rw [List.getElem?_append_right (by simp; omega), List.getElem?_drop]
  simp only [List.length_map, List.length_take]
  rw [show i + (i - min i l.length) = i by omega, List.getElem?_eq_getElem h]
 simp [bytV, this]
theorem spL_next {l : List UInt8} {i : Nat} (h : i < l.length) : (spL l i).set i (spB l[i]) = spL l (i + 1) := by
 unfold spL
 have e1 : ((l.take i).map spB).length = i := by simp; omega
 rw [List.set_append_right _ _ (by rw [e1]; exact Nat.le_refl _), e1, Nat.sub_self, List.drop_eq_getElem_cons h, List.set_cons_zero, List.take_succ_eq_append_getElem h, List.map_append, List.append_assoc]
 rfl
theorem spL_same {l : List UInt8} {i : Nat} (h : i < l.length) (h32 : spB l[i] = l[i]) : spL l (i + 1) = spL l i := by
 rw [← spL_next h, h32]
 apply List.ext_getElem?
 intro j
 rw [List.getElem?_set]
 split
 ·rename_i hij
  subst hij
  have := spL_at h
  simp only [bytV, List.getElem?_map] at this
  have e : (spL l i)[i]? = some l[i] := by
   unfold spL
   rw [List.getElem?_append_right (by simp; omega), List.getElem?_drop]
   simp only [List.length_map, List.length_take]
   rw [show i + (i - min i l.length) = i by omega, List.getElem?_eq_getElem h]
  rw [e, if_pos (by rw [spL_len]; exact h)]
 ·rfl
theorem bytV_put (l : List UInt8) (q : Nat) (b : UInt8) : (bytV l).set q (.int .u8 (b.toNat : Int)) = bytV (l.set q b) := by
 simp [bytV, List.map_set]
theorem spread_any (s : ByteArray) (hs : s.size ≤ 1000000) : PureC 10 [.str s] (· = .str (spreadV s)) := by
 have l1 := Lib.size_eq s
 unfold spreadV
 generalize hl : s.data.toList = l at l1
 have hl0 : bytV s.data.toList = bytV (spL l 0) := by rw [hl]; rfl
 refine pure_enter Tryd.func10 rfl (by decide) _ Tryd.ntmps10 (le_ok rfl) (fun w Pr hE => ?_)
 dsimp only [slotsOf, Nat.zero_add, Nat.reduceAdd]
 repeat' (first | (apply at_op (.convert _ _ _); refine al_step (st_bytes rfl Tryd.underlying9 Tryd.underlying60 Tryd.underlying5 (by omega) (lt_ok rfl) rfl) rfl ?_) | refine nx ?_ | (apply aq_block_y; decide) | (apply qr_move; refine r_move ?_) | (apply qr_assign; refine r_assign ?_) | (apply at_cond; first | refine c_t ?_ | refine c_f ?_ | (refine aw_cond rfl (fun hb => ?_) (fun hb => ?_) <;> ((try have hq := dX hb); (try (exfalso; omega))))) | (apply qr_lss; refine r_lss ?_) | (apply qr_eql; refine r_eql ?_) | (apply qr_add; refine r_add ?_) | (apply qr_conv; refine r_conv ?_) | (apply qr_len; refine r_len ?_) | (apply qr_ix; refine r_ix ?_) | (apply qr_load; refine r_load ?_) | (apply qr_store; refine r_store ?_))
 rw [hl0]
 clear hl hl0
 refine aw_lp (fun N sl ob => ∃ i : Nat, N = l.length - i ∧ i ≤ l.length ∧ sl = [(4, .d (.int i)), (3, .row 6 0), (0, .d (.str s))] ∧ ob = [(6, .byt 5 0 (bytV (spL l i)))]) (⟨0, rfl, Nat.zero_le _, rfl, rfl⟩) ?_
 rintro N sl ob ⟨i, rfl, hi, rfl, rfl⟩
 have hbl : (bytV (spL l i)).length = l.length := by rw [bytV_len, spL_len]
 by_cases hlt : i < l.length
 ·have hget := spL_at hlt
  have hnx := spL_next hlt
  have hsm := spL_same hlt
  generalize l[i] = c at hget hnx hsm
  by_cases hc : c = 32
  ·subst hc
   have q1 : decide (((32 : UInt8).toNat : Int) = 32) = true := rfl
   have hset : (bytV (spL l i)).set i (.int .u8 10) = bytV (spL l (i + 1)) := by
    rw [← hnx]
    exact bytV_put _ _ 10
   repeat' (first | (apply at_op (.call { callee := .builtin .len, args := _, argTypes := _ }); refine al_y (y_bytlen rfl rfl rfl ⟨_, _, _, _, rfl⟩ hbl) (lt_ok rfl) ?_) | (apply at_op (.indexAddr _ _ _); refine al_bytget (q := i) rfl rfl rfl rfl rfl hget rfl (lt_ok rfl) (lt_ok rfl) ?_) | refine nx ?_ | (apply aq_block_y; decide) | (apply qr_move; refine r_move ?_) | (apply at_cond; first | refine c_t ?_ | refine c_f ?_ | (refine aw_cond rfl (fun hb => ?_) (fun hb => ?_) <;> ((try have hq := dX hb); (try (exfalso; omega))))) | (apply qr_lss; refine r_lss ?_) | (apply qr_eql; refine r_eql ?_) | (apply qr_len; refine r_len ?_) | (apply qr_ix; refine r_ix ?_) | (apply qr_load; refine r_load ?_))
   repeat' (first | (apply at_op (.indexAddr _ _ _); refine al_bytput (q := i) rfl rfl rfl rfl rfl rfl (by rw [hbl]; omega) rfl rfl (lt_ok rfl) ?_) | refine nx ?_ | (apply aq_block_y; decide) | (apply qr_move; refine r_move ?_) | (apply at_cond; first | refine c_t ?_ | refine c_f ?_ | (refine aw_cond rfl (fun hb => ?_) (fun hb => ?_) <;> ((try have hq := dX hb); (try (exfalso; omega))))) | (apply qr_ix; refine r_ix ?_) | (apply qr_store; refine r_store ?_))
   rw [hset]
   repeat' (first | refine nx ?_ | (apply aq_block_y; decide) | (apply qr_move; refine r_move ?_) | (apply qr_assign; refine r_assign ?_) | (apply at_cond; first | refine c_t ?_ | refine c_f ?_ | (refine aw_cond rfl (fun hb => ?_) (fun hb => ?_) <;> ((try have hq := dX hb); (try (exfalso; omega))))) | (apply qr_add; refine r_add ?_))
   refine aq_rd (⟨i + 1, rfl, by omega, rfl, rfl⟩) (by omega)
  ·have q1 : decide ((c.toNat : Int) = 32) = false := decide_eq_false fun e => hc (UInt8.toNat_inj.1 (by show c.toNat = 32; omega))
   have hsm := hsm (by unfold spB; rw [if_neg hc])
   repeat' (first | (apply at_op (.call { callee := .builtin .len, args := _, argTypes := _ }); refine al_y (y_bytlen rfl rfl rfl ⟨_, _, _, _, rfl⟩ hbl) (lt_ok rfl) ?_) | (apply at_op (.indexAddr _ _ _); refine al_bytget (q := i) rfl rfl rfl rfl rfl hget rfl (lt_ok rfl) (lt_ok rfl) ?_) | refine nx ?_ | (apply aq_block_y; decide) | (apply qr_move; refine r_move ?_) | (apply qr_assign; refine r_assign ?_) | (apply at_cond; first | refine c_t ?_ | refine c_f ?_ | (refine aw_cond rfl (fun hb => ?_) (fun hb => ?_) <;> ((try have hq := dX hb); (try (exfalso; omega))))) | (apply qr_lss; refine r_lss ?_) | (apply qr_eql; refine r_eql ?_) | (apply qr_add; refine r_add ?_) | (apply qr_len; refine r_len ?_) | (apply qr_ix; refine r_ix ?_) | (apply qr_load; refine r_load ?_))
   refine aq_rd (⟨i + 1, rfl, by omega, rfl, by rw [hsm]⟩) (by omega)
 ·obtain rfl : i = l.length := by omega
  have hend : spL l l.length = l.map spB := by unfold spL; simp
  repeat' (first | (apply at_op (.call { callee := .builtin .len, args := _, argTypes := _ }); refine al_y (y_bytlen rfl rfl rfl ⟨_, _, _, _, rfl⟩ hbl) (lt_ok rfl) ?_) | (apply at_op (.convert _ _ _); refine al_step (st_bytstr (L := spL l l.length) rfl rfl rfl Tryd.underlying5 Tryd.underlying9 rfl (lt_ok rfl)) rfl ?_) | refine nx ?_ | (apply aq_block_y; decide) | (apply qr_move; refine r_move ?_) | (apply qr_assign; refine r_assign ?_) | (apply at_cond; first | refine c_t ?_ | refine c_f ?_ | (refine aw_cond rfl (fun hb => ?_) (fun hb => ?_) <;> ((try have hq := dX hb); (try (exfalso; omega))))) | (apply qr_lss; refine r_lss ?_) | (apply qr_conv; refine r_conv ?_) | (apply qr_len; refine r_len ?_))
  refine rt1 ?_
  rw [hend]
end Go.Proofs.YtedoeogopmenpaaDoor
end
section
set_option linter.unusedSimpArgs false
set_option linter.unusedVariables false
namespace Go.Proofs.YtedoeogopmenpaaDoor
open Go.RowKit
theorem spread_size (s : ByteArray) : (spreadV s).size = s.size := by
 unfold spreadV
 rw [Lib.size_eq, Lib.size_eq]
 simp
theorem parse_spread {x : By} (h : x.Ok) (hz : x.text.size ≤ 4000) : parseV (spreadV x.text) = (x, 0, 0) := parse_laid h (by_laid h).laid.spread (by
 have : x.text.size = (catL x.lines).length := List.size_toArray
 rw [List.length_map]
 show (catL x.lines).length ≤ 4000
 omega)
theorem allP_toks {e : Ex} (h : e.right 12 = true) {r : List Tok} (hr : (nxt r).k = 3) (hs : Halt 0 r) : allP (e.toks itoaB 0 ++ r) = .ok e r := by
 unfold allP
 rw [readE_toks h hs, then_ok, if_pos hr, if_pos (right_levels 12 e h)]
theorem parseE_laid {e : Ex} (h : e.right 12 = true) {bs : List UInt8} (hl : LaidL bs (e.toks itoaB 0)) (hs : bs.length ≤ 4000) : parseEV (B bs) = (e, 0, 0) := by
 have h1 := laid_lex hl hs
 have hp : ∀ t ∈ e.toks itoaB 0, t.p = 0 := fun t ht => (toks_tk 12 e h 0 (by omega) t ht).2
 have h2 : (lay 0 (e.toks itoaB 0) ++ [endTok bs.length]).map (mv fun _ => 0) = e.toks itoaB 0 ++ [endTok 0] := by
  rw [List.map_append, lay_mv 0 _ hp]
  rfl
 have h3 := allP_toks h (r := [endTok 0]) rfl (stop_closer rfl rfl rfl)
 rw [← h2] at h3
 obtain ⟨u, h4, _⟩ := mv_ok (allP_mv rfl _) h3
 unfold parseEV
 rw [h1]
 simp only [if_true, h4]
theorem text_laid {e : Ex} (h : e.right 12 = true) : LaidL (e.text 0).data.toList (e.toks itoaB 0) := txt_laid (toks_ne h 0) fun t ht => (toks_tk 12 e h 0 (by omega) t ht).1
theorem parseE_spread {e : Ex} (h : e.right 12 = true) (hz : (e.text 0).size ≤ 4000) : parseEV (spreadV (e.text 0)) = (e, 0, 0) := parseE_laid h (text_laid h).spread (by
 have := Lib.size_eq (e.text 0)
 rw [List.length_map]
 omega)
theorem printD_form2 (x : By) : ∃ s n, printD x = .tup [.str s, .int n] ∧ s.size ≤ 4000 ∧ (x.right = true → (n = 0 ∧ s = x.text ∧ x.text.size ≤ 4000) ∨ n = 6) := by
 unfold printD
 split
 ·unfold fitsD
  split
  ·exact ⟨_, _, rfl, by decide, fun _ => .inr rfl⟩
  ·exact ⟨_, _, rfl, by omega, fun _ => .inl ⟨rfl, rfl, by omega⟩⟩
 ·rename_i h
  exact ⟨_, _, rfl, by decide, fun h' => absurd h' h⟩
theorem printED_form2 (x : Ex) : ∃ s n, printED x = .tup [.str s, .int n] ∧ s.size ≤ 4000 ∧ (x.right 12 = true → (n = 0 ∧ s = x.text 0 ∧ (x.text 0).size ≤ 4000) ∨ n = 6) := by
 unfold printED
 split
 ·unfold fitsD
  split
  ·exact ⟨_, _, rfl, by decide, fun _ => .inr rfl⟩
  ·exact ⟨_, _, rfl, by omega, fun _ => .inl ⟨rfl, rfl, by omega⟩⟩
 ·rename_i h
  exact ⟨_, _, rfl, by decide, fun h' => absurd h' h⟩
theorem said_by (s : ByteArray) (hs : s.size ≤ 1500) : ∃ (X : By) (xp xe : Int) (T : ByteArray) (g : Int) (b : By) (bp be : Int), parseV s = (X, xp, xe) ∧ parseV (spreadV T) = (b, bp, be) ∧ printD X = .tup [.str T, .int g] ∧ (0 ≤ xp ∧ xp ≤ (s.size : Int)) ∧ T.size ≤ 4000 ∧ X.tame ∧ ((xe = 0 ∧ xp = 0 ∧ X.right = true ∧ ((g = 0 ∧ b = X ∧ be = 0) ∨ g = 6)) ∨ (xe ≠ 0 ∧ X = By.zero)) := by
 obtain ⟨h1, h2⟩ := parse_said s (by omega)
 have ht := parseV_tame s
 obtain ⟨T, g, e1, e2, e3⟩ := printD_form2 (parseV s).1
 refine ⟨(parseV s).1, (parseV s).2.1, (parseV s).2.2, T, g, (parseV (spreadV T)).1, (parseV (spreadV T)).2.1, (parseV (spreadV T)).2.2, rfl, rfl, e1, h1, e2, ht, ?_⟩
 rcases h2 with ⟨k1, k2, k3⟩ | h2
 ·refine .inl ⟨k1, k2, ok_right k3, ?_⟩
  rcases e3 (ok_right k3) with ⟨q1, q2, q3⟩ | q
  ·left
   rw [q2, parse_spread k3 q3]
   exact ⟨q1, rfl, rfl⟩
  ·exact .inr q
 ·exact .inr h2
theorem said_ex (s : ByteArray) (hs : s.size ≤ 1500) : ∃ (X : Ex) (xp xe : Int) (T : ByteArray) (g : Int) (b : Ex) (bp be : Int), parseEV s = (X, xp, xe) ∧ parseEV (spreadV T) = (b, bp, be) ∧ printED X = .tup [.str T, .int g] ∧ (0 ≤ xp ∧ xp ≤ (s.size : Int)) ∧ T.size ≤ 4000 ∧ X.tame ∧ ((xe = 0 ∧ xp = 0 ∧ X.right 12 = true ∧ ((g = 0 ∧ b = X ∧ be = 0) ∨ g = 6)) ∨ (xe ≠ 0 ∧ X = Ex.zero)) := by
 obtain ⟨h1, h2⟩ := parseE_said s (by omega)
 have ht := parseEV_tame s
 obtain ⟨T, g, e1, e2, e3⟩ := printED_form2 (parseEV s).1
 refine ⟨(parseEV s).1, (parseEV s).2.1, (parseEV s).2.2, T, g, (parseEV (spreadV T)).1, (parseEV (spreadV T)).2.1, (parseEV (spreadV T)).2.2, rfl, rfl, e1, h1, e2, ht, ?_⟩
 rcases h2 with ⟨k1, k2, k3⟩ | h2
 ·refine .inl ⟨k1, k2, k3, ?_⟩
  rcases e3 k3 with ⟨q1, q2, q3⟩ | q
  ·left
   rw [q2, parseE_spread k3 q3]
   exact ⟨q1, rfl, rfl⟩
  ·exact .inr q
 ·exact .inr h2
theorem canon_any (s : ByteArray) (hs : s.size ≤ 9223372036854775807) : PureC 3 [.str s] (· = .bool true) := by
 by_cases hbig : 1500 < s.size
 ·have q0 : decide ((1500 : Int) < s.size) = true := decide_eq_true (by omega)
  refine pure_enter Tryd.func3 rfl (by decide) _ Tryd.ntmps3 (le_ok rfl) (fun w Pr hE => ?_)
  dsimp only [slotsOf, Nat.zero_add, Nat.reduceAdd]
  repeat' (first | (apply at_call; refine k_call (small_any) hE ?_; rintro _ rfl) | refine nx ?_ | (apply qr_move; refine r_move ?_) | (apply qr_assign; refine r_assign ?_) | (apply at_cond; first | refine c_t ?_ | refine c_f ?_ | (refine aw_cond rfl (fun hb => ?_) (fun hb => ?_) <;> ((try have hq := dX hb); (try (exfalso; omega))))) | (apply qr_gtr; refine r_gtr ?_) | (apply qr_len; refine r_len ?_))
  refine rt1 ?_
  rfl
 have q0 : decide ((1500 : Int) < s.size) = false := decide_eq_false (by omega)
 obtain ⟨X, xp, xe, T, g, b, bp, be, hX, hb1, hP, hxp, hT, tX, hcX⟩ := said_by s (by omega)
 obtain ⟨Y, yp, ye, U, f, c, cp, ce, hY, hc1, hPY, hyp, hU, tY, hcY⟩ := said_ex s (by omega)
 have p1 := parse_any s (by omega)
 have p2 := parseE_any s (by omega)
 rw [hX] at p1
 rw [hY] at p2
 have z1 := (rsame_any By.zero By.zero tame_z tame_z).wk2 (.same _) (wk_agg z_wk)
 rw [(bySame_iff _ _).2 rfl] at z1
 have z2 : PureC 8 [.agg (exC Ex.zero), .agg [.int 0, .int 0, .int 0, .str ⟨#[]⟩, nilD]] (· = .bool (Ex.zero.same Ex.zero)) := (rsameE_any Ex.zero Ex.zero tame_zero tame_zero).wk2 (.same _) (wk_agg (wkl_args (.nil 5)))
 rw [(same_iff _ _).2 rfl] at z2
 have p3 := print_any X tX
 have p4 := printE_any Y tY
 rw [hP] at p3
 rw [hPY] at p4
 have s1 := spread_any T (by omega)
 have s2 := spread_any U (by omega)
 have p5 := parse_any (spreadV T) (by rw [spread_size]; omega)
 have p6 := parseE_any (spreadV U) (by rw [spread_size]; omega)
 rw [hb1] at p5
 rw [hc1] at p6
 have r1 := byRight_any X tX
 have r2 := rightExp_any Y tY
 have m1 := rsame_any X X tX tX
 rw [(bySame_iff _ _).2 rfl] at m1
 have m2 := rsameE_any Y Y tY tY
 rw [(same_iff _ _).2 rfl] at m2
 unfold parseD at p1 p5
 unfold parseED at p2 p6
 dsimp only at p1 p2 p5 p6
 generalize spreadV T = ST at s1 p5
 generalize spreadV U = SU at s2 p6
 have a1 : decide (xp < 0) = false := decide_eq_false (by omega)
 have a2 : decide ((s.size : Int) < xp) = false := decide_eq_false (by omega)
 have a3 : decide (yp < 0) = false := decide_eq_false (by omega)
 have a4 : decide ((s.size : Int) < yp) = false := decide_eq_false (by omega)
 clear hX hY hP hPY hb1 hc1 hxp hyp tX tY hT hU hbig
 refine pure_enter Tryd.func3 rfl (by decide) _ Tryd.ntmps3 (le_ok rfl) (fun w Pr hE => ?_)
 dsimp only [slotsOf, Nat.zero_add, Nat.reduceAdd]
 repeat' (first | (apply at_call; refine k_call (small_any) hE ?_; rintro _ rfl) | (apply at_call; refine k_call (p1) hE ?_; rintro _ rfl) | (apply at_call; refine k_call (p2) hE ?_; rintro _ rfl) | refine nx ?_ | (apply qr_move; refine r_move ?_) | (apply qr_assign; refine r_assign ?_) | (apply at_cond; first | refine c_t ?_ | refine c_f ?_ | (refine aw_cond rfl (fun hb => ?_) (fun hb => ?_) <;> ((try have hq := dX hb); (try (exfalso; omega))))) | (apply qr_gtr; refine r_gtr ?_) | (apply qr_len; refine r_len ?_) | (apply qr_extract; refine r_extract ?_) | (apply qr_alloc; refine r_alloc ?_) | (apply qr_store; refine r_store ?_))
 clear p1 p2
 rcases hcX with ⟨rfl, rfl, hrx, ⟨rfl, rfl, rfl⟩ | rfl⟩ | ⟨hnx, rfl⟩
 all_goals rcases hcY with ⟨rfl, rfl, hry, ⟨rfl, rfl, rfl⟩ | rfl⟩ | ⟨hny, rfl⟩
 all_goals (try rw [hrx] at r1)
 all_goals (try rw [hry] at r2)
 all_goals (try have b1 := decide_eq_false hnx)
 all_goals (try have b2 : (!decide (xe = 0)) = true := congrArg (!·) b1)
 all_goals (try have b3 := decide_eq_false hny)
 all_goals (try have b4 : (!decide (ye = 0)) = true := congrArg (!·) b3)
 all_goals first | clear hnx m1 | clear z1
 all_goals first | clear hny m2 | clear z2
 all_goals
  repeat' (first | (apply at_call; refine k_call (z1) hE ?_; rintro _ rfl) | (apply at_call; refine k_call (z2) hE ?_; rintro _ rfl) | (apply at_call; refine k_call (p3) hE ?_; rintro _ rfl) | (apply at_call; refine k_call (s1) hE ?_; rintro _ rfl) | (apply at_call; refine k_call (p5) hE ?_; rintro _ rfl) | (apply at_call; refine k_call (r1) hE ?_; rintro _ rfl) | (apply at_call; refine k_call (m1) hE ?_; rintro _ rfl) | refine nx ?_ | (apply qr_move; refine r_move ?_) | (apply qr_assign; refine r_assign ?_) | (apply at_cond; first | refine c_t ?_ | refine c_f ?_ | (refine aw_cond rfl (fun hb => ?_) (fun hb => ?_) <;> ((try have hq := dX hb); (try (exfalso; omega))))) | (apply at_guard; first | refine g_go ?_ | refine g_nt ?_ | refine g_nf ?_ | refine g_nu ?_ | ((first | refine al_split_t rfl rfl (lt_ok rfl) (fun hb => ?_) (fun hb => ?_) | refine al_split_f rfl rfl (lt_ok rfl) (fun hb => ?_) (fun hb => ?_)) <;> ((try have hq := dX hb); (try (exfalso; omega))))) | (apply qr_pick; refine r_pick ?_) | (apply qr_lss; refine r_lss ?_) | (apply qr_gtr; refine r_gtr ?_) | (apply qr_eql; refine r_eql ?_) | (apply qr_neq; refine r_neq ?_) | (apply qr_not; refine r_not ?_) | (apply qr_len; refine r_len ?_) | (apply qr_extract; refine r_extract ?_) | (apply qr_load; refine r_load ?_) | (apply qr_alloc; refine r_alloc ?_) | (apply qr_store; refine r_store ?_) | (apply qr_build; refine r_build ?_))
  repeat' (first | (apply at_call; refine k_call (p4) hE ?_; rintro _ rfl) | (apply at_call; refine k_call (s2) hE ?_; rintro _ rfl) | (apply at_call; refine k_call (p6) hE ?_; rintro _ rfl) | (apply at_call; refine k_call (r2) hE ?_; rintro _ rfl) | (apply at_call; refine k_call (m2) hE ?_; rintro _ rfl) | refine nx ?_ | (apply qr_move; refine r_move ?_) | (apply qr_assign; refine r_assign ?_) | (apply at_cond; first | refine c_t ?_ | refine c_f ?_ | (refine aw_cond rfl (fun hb => ?_) (fun hb => ?_) <;> ((try have hq := dX hb); (try (exfalso; omega))))) | (apply at_guard; first | refine g_go ?_ | refine g_nt ?_ | refine g_nf ?_ | refine g_nu ?_ | ((first | refine al_split_t rfl rfl (lt_ok rfl) (fun hb => ?_) (fun hb => ?_) | refine al_split_f rfl rfl (lt_ok rfl) (fun hb => ?_) (fun hb => ?_)) <;> ((try have hq := dX hb); (try (exfalso; omega))))) | (apply qr_pick; refine r_pick ?_) | (apply qr_eql; refine r_eql ?_) | (apply qr_neq; refine r_neq ?_) | (apply qr_not; refine r_not ?_) | (apply qr_extract; refine r_extract ?_) | (apply qr_load; refine r_load ?_) | (apply qr_alloc; refine r_alloc ?_) | (apply qr_store; refine r_store ?_))
  refine rt1 ?_
  rfl
end Go.Proofs.YtedoeogopmenpaaDoor
end
section
namespace Go.Proofs.YtedoeogopmenpaaDoor
open Go.ChangeShapes Go.WideShapes Go.ChangeAt Go.RowKit Go.Deep Go.Joins
abbrev laidL : List (String × DataW Unit) := [("math/bits.deBruijn32tab", Rows.laid_math_bits_deBruijn32tab), ("math/bits.deBruijn64tab", Rows.laid_math_bits_deBruijn64tab), ("internal/strconv.uint64pow10", Rows.laid_internal_strconv_uint64pow10), ("tonneau/lex.signs", Rows.laid_tonneau_lex_signs)]
theorem gP : Tryd.prog.globalNamed "internal/strconv.uint64pow10" = some 2 := by kernel_rfl
theorem signsN : Tryd.prog.globalNamed "tonneau/lex.signs" = some 0 := by kernel_rfl
theorem signsT : (Tryd.prog.globals[0]?).map (·.type) = some 128 := by kernel_rfl
theorem signsA : Tryd.prog.underlying 128 = some (.array 11 9) := by kernel_rfl
theorem signsC : Tryd.prog.cellsOf 9 = 1 := by kernel_rfl
theorem signsZ : Tryd.prog.cellsOf 128 = 11 := by kernel_rfl
theorem pow_data : (Rows.laid_internal_strconv_uint64pow10 : DataW Unit) = Lib.tabData .u64 Lib.pow10Tab := by
 unfold Rows.laid_internal_strconv_uint64pow10 Lib.tabData
 kernel_rfl
theorem env_cells {W : World} {Pr : Prot} {name : String} {g : Nat} {vs : List Value} {ds : List D} (hg : Tryd.prog.globalNamed name = some g) (hv : W.var? Tryd.prog name = some vs.toArray) (hP : ∀ o, Pr g o) (hl : vs.length = ds.length) (hr : ∀ (i : Nat) (v : Value) (d : D), vs[i]? = some v → ds[i]? = some d → RepD W Pr v d) :
  (∀ (j : Nat) (d : D), ds[j]? = some d → ∃ u, W.cell? ⟨g, j, none⟩ = some u ∧ Pr g j ∧ RepD W Pr u d) ∧ ∀ j, ds[j]? = none → W.cell? ⟨g, j, none⟩ = none ∧ Pr g j := by
 refine ⟨fun j d hd => ?_, fun j hd => ?_⟩
 ·have hj : j < vs.length := by rw [hl]; exact (List.getElem?_eq_some_iff.1 hd).1
  refine ⟨vs[j], (World.var?_cell hg hv j).trans (by simp [hj]), hP j, hr j _ d (List.getElem?_eq_getElem hj) hd⟩
 ·have hj : ds.length ≤ j := List.getElem?_eq_none_iff.1 hd
  exact ⟨(World.var?_cell hg hv j).trans (by simp; omega), hP j⟩
theorem var_lt {W : World} {name : String} {g : Nat} {cs : Array Value} (hg : Tryd.prog.globalNamed name = some g) (hv : W.var? Tryd.prog name = some cs) : g < W.heap.size := by
 simp only [World.var?, hg, Option.bind_some] at hv
 cases hh : W.heap[g]? with
 | none => rw [hh] at hv; cases hv
 | some o => exact (Array.getElem?_eq_some_iff.1 hh).1
theorem signs_cells {W : World} {rest : List (String × DataW Unit)} (h : laidMet Tryd.prog (("tonneau/lex.signs", Rows.laid_tonneau_lex_signs) :: rest) W) : W.var? Tryd.prog "tonneau/lex.signs" = some (signsL.map Value.string).toArray := by
 obtain ⟨ps, ⟨g, t, cs, fuel, p, q, hg, ht, hvar, hd, _, _⟩, _⟩ := h
 obtain rfl := Option.some.inj (signsN.symm.trans hg)
 obtain rfl := Option.some.inj (signsT.symm.trans ht)
 obtain ⟨xs, m, _, hx, hl, hn, hat⟩ := DataW.trod_array signsA hd
 rw [signsZ] at hl
 have hmap : xs.map (·.1) = signsL.map fun s => DataW.lit (.string s.data.toList) := by
  have := congrArg Prod.fst hx
  injection this with this
  exact this.symm
 rw [hvar]
 congr 1
 apply Array.ext'
 apply List.ext_getElem?
 intro j
 by_cases hj11 : j < 11
 ·obtain ⟨s, hs⟩ : ∃ s, signsL[j]? = some s := ⟨_, List.getElem?_eq_getElem (show j < signsL.length from hj11)⟩
  have h1 := hat j hj11
  rw [signsC, Nat.mul_one] at h1
  obtain ⟨x, hx2⟩ : ∃ x, xs[j]? = some x := ⟨_, List.getElem?_eq_getElem (by omega)⟩
  rw [hx2] at h1
  obtain ⟨z, hz, hx3, _⟩ := DataW.trod_string Tryd.underlying9 h1
  have h2 : (xs.map (·.1))[j]? = some x.1 := by rw [List.getElem?_map, hx2]; rfl
  rw [hmap, List.getElem?_map, hs, hx3] at h2
  have h3 : s = z := by
   simp only [Option.map_some, Option.some.injEq, DataW.lit.injEq, Lit.string.injEq] at h2
   apply ByteArray.ext
   exact Array.toList_inj.1 h2
  have h4 : cs.toList[j]? = some (.string z) := by
   have h5 := congrArg (fun l => l[0]?) hz
   simpa [List.getElem?_take, List.getElem?_drop] using h5
  rw [h4, List.getElem?_map, hs, h3]
  rfl
 ·rw [List.getElem?_eq_none (by omega), List.getElem?_eq_none (by rw [List.length_map]; show 11 ≤ j; omega)]
theorem env_of_laid {W : World} (h : laidMet Tryd.prog laidL W) : EnvOk W (fun b _ => b < W.heap.size) := by
 have h2 := h.tail.tail
 have hp := Lib.tabIs_of_head (t := 139) (e := 133) (n := 20) gP (by kernel_rfl) (by kernel_rfl) (by kernel_rfl) (by kernel_rfl) (by kernel_rfl) (pow_data ▸ h2)
 have hs := signs_cells h2.tail
 intro g l hm
 unfold laidG at hm
 rcases List.mem_cons.1 hm with e | hm
 ·cases e
  refine env_cells (Pr := fun b _ => b < W.heap.size) signsN hs (fun _ => var_lt signsN hs) (by simp) (fun i v d h1 h2 => ?_)
  rw [List.getElem?_map, Option.map_eq_some_iff] at h1 h2
  obtain ⟨s, h3, rfl⟩ := h1
  obtain ⟨s', h4, rfl⟩ := h2
  rw [h3] at h4
  cases h4
  exact .val _
 rcases List.mem_cons.1 hm with e | hm
 ·cases e
  refine env_cells (Pr := fun b _ => b < W.heap.size) gP hp (fun _ => var_lt gP hp) (by simp) (fun i v d h1 h2 => ?_)
  rw [List.getElem?_map, h1] at h2
  cases h2
  exact .val _
 ·cases hm
def dataVals : DataW Unit → List Value
 | .agg l => l.map fun
  | .lit (.int k z) => .int k z
  | _ => .nilFunc
 | _ => []
def setVar (h : Array Obj) (g : Nat) (vs : List Value) : Array Obj := h.modify g fun
 | .cells _ t frozen => .cells vs.toArray t frozen
 | o => o
noncomputable def laidWorld (os : Os) : World :=
 let w0 := World.holding Tryd.prog os ⟨#[], #[], []⟩
 { w0 with heap := setVar (setVar (setVar (setVar w0.heap 3 (dataVals Rows.laid_math_bits_deBruijn32tab)) 4 (dataVals Rows.laid_math_bits_deBruijn64tab)) 2 (dataVals Rows.laid_internal_strconv_uint64pow10)) 0 (signsL.map Value.string) }
theorem laid_met (os : Os) (args : Array Value) : laidMet Tryd.prog laidL ((laidWorld os).forCall (fun _ _ => 0) ⟨#[], args, []⟩).memory :=
 laidMet_of_run (ps := (List.range 32).map (MemPlace.cell 3) ++ (List.range 64).map (MemPlace.cell 4) ++ (List.range 20).map (MemPlace.cell 2) ++ (List.range 11).map (MemPlace.cell 0)) 8 (by kernel_rfl) (by kernel_rfl) (by kernel_rfl)
theorem law_call {f : FuncId} {ds : List D} {w : World} {vs : List Value} (h : PureC f ds (· = .bool true)) (hL : laidMet Tryd.prog laidL w) (hl : vs.length = ds.length)
  (hr : ∀ (i : Nat) (v : Value) (d : D), vs[i]? = some v → ds[i]? = some d → RepD w (fun b _ => b < w.heap.size) v d) :
  Calls Tryd.prog f vs.toArray w fun e w' => e = .returned (.bool true) ∧ Below w.heap.size w w' := by
 refine (h.2 w (fun b _ => b < w.heap.size) vs (fun _ _ h => h) (env_of_laid hL) hl hr).mono fun e w' ⟨v, r, he, hp, hrep, hb⟩ => ?_
 subst hp
 cases hrep
 exact ⟨he, hb⟩
end Go.Proofs.YtedoeogopmenpaaDoor
end
