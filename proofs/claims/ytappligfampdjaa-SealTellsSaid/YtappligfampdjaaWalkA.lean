/-
  The walks of key, New and Sign. Conditions: none.
-/
import Derived.Test.YtappligfampdjaaRing
namespace Go.Proofs.Ytappligfampdjaa
open Go.RowKit Go.WideMaps

theorem lit_below (w : World) (o : Obj) : Below w.heap.size w (w.alloc o) := (Below.refl _ _).alloc (Nat.le_refl _) _
set_option maxHeartbeats 400000 in
theorem key_any (n : Int) (w : World) : Calls Try.prog 21 #[.int .i64 n] w fun e w' => e = .returned (.bool (keyB n)) ∧ Below w.heap.size w w' := by
  by_cases h1 : 0 ≤ n
  all_goals by_cases h2 : n < 5000
  all_goals try (exfalso; omega)
  all_goals
    (try have h1' := decide_eq_false h1)
    (try have h2' := decide_eq_false h2)
    go_enter Try.func21, Try.ntmps21
    go_wp2
    go_ret
    exact ⟨by simp [keyB]; omega, Below.refl _ _⟩
set_option maxHeartbeats 400000 in
theorem new_any (w : World) : Calls Try.prog 8 #[] w fun e w' => ∃ g b, e = .returned (.pointer (some ⟨g, 0, none⟩)) ∧ RingAt w' w.heap.size g b (.slice none 0 0) [] ∧ Below w.heap.size w w' := by
  have hmk : (Instr.makeMap 46 none).run Try.prog w = .ok (.map (some w.heap.size)) (w.alloc (.map #[] 0)) := rfl
  go_enter Try.func8, Try.ntmps8
  go_wp2
  go_ret
  refine ⟨_, _, rfl, ⟨?_, ⟨#[], 0, (Below.heap_alloc _ _ _ (by simp)).trans (heap_alloc_new w _), rfl⟩, World.ownsRow_nil _ _ _ _, List.nodup_nil, by simp, by omega, Nat.le_refl _⟩, (lit_below _ _).alloc (by simp) _⟩
  exact heap_at _ _ _ (by simp)

/-- A box of three cells, set anew. -/
theorem set3 {w : World} {r : Nat} {x0 x1 x2 : Value} {e : TypeId} (h : w.heap[r]? = some (.cells #[x0, x1, x2] e (0, 0))) (a b c : Value) :
    (((w.setCell ⟨r, 0, none⟩ a).setCell ⟨r, 1, none⟩ b).setCell ⟨r, 2, none⟩ c).heap[r]? = some (.cells #[a, b, c] e (0, 0)) :=
  heap_setCell_same _ r 2 _ e c (heap_setCell_same _ r 1 _ e b (heap_setCell_same w r 0 _ e a h))
theorem cells3 {w : World} {r : Nat} {x0 x1 x2 : Value} {e : TypeId} (h : w.heap[r]? = some (.cells #[x0, x1, x2] e (0, 0))) : w.cell? ⟨r, 0, none⟩ = some x0 ∧ w.cell? ⟨r, 1, none⟩ = some x1 ∧ w.cell? ⟨r, 2, none⟩ = some x2 := by
  refine ⟨?_, ?_, ?_⟩ <;> rw [cell_of_row w r _ _ e (0, 0) h] <;> rfl
theorem below3 {B r : Nat} {w w' : World} (h : Below B w w') (hr : B ≤ r) (a b c : Value) : Below B w (((w'.setCell ⟨r, 0, none⟩ a).setCell ⟨r, 1, none⟩ b).setCell ⟨r, 2, none⟩ c) :=
  ((h.setCell (p := ⟨r, 0, none⟩) hr a).setCell (p := ⟨r, 1, none⟩) hr b).setCell (p := ⟨r, 2, none⟩) hr c
theorem other3 {w : World} {r k : Nat} (hk : k ≠ r) (a b c : Value) : (((w.setCell ⟨r, 0, none⟩ a).setCell ⟨r, 1, none⟩ b).setCell ⟨r, 2, none⟩ c).heap[k]? = w.heap[k]? :=
  (heap_setCell_other _ ⟨r, 2, none⟩ k c hk).trans ((heap_setCell_other _ ⟨r, 1, none⟩ k b hk).trans (heap_setCell_other w ⟨r, 0, none⟩ k a hk))
theorem info_sealed : (Try.prog.info? 32).map (fun i => (i.zero, i.size, i.bytes)) = some (some (.agg #[.int .i64 0, .string ⟨#[]⟩]), 2, 24) := by kernel_rfl
/-- append of what a slice literal has just made, onto a slice of the call's own, from the world with the literal; and where it lies. -/
theorem wp_push4 {P : Program} {o : Oper} {a : Act} {K : Act → World → Prop} {Q : Exit → Act → World → Prop} (s x : Operand) (t : TypeId)
    (ho : o.op = .call { callee := .builtin .append, args := #[s, x], argTypes := #[t, t] })
    (base : Nat) (e : TypeId) (i : TypeInfo) (z : Value) (size bytes : Nat) (ht : P.underlying t = some (.slice e)) (hi : P.info? e = some i) (hz : i.zero = some z)
    (hsize : i.size = size) (hby : i.bytes = bytes) (hzs : z.cells.size = size) (hsz : 0 < size) (w : World)
    (v : Value) (n : Nat) (xs : List Value) (hs : a.eval s = v) (hown : w.ownsRow base e size v n xs)
    (m c : Nat) (news : List Value) (hx : a.eval x = .slice (some ⟨w.heap.size, 0, none⟩) m c) (hl : news.length = m * size) (h1 : ∀ u ∈ news, u.oneCell' = true)
    (hbase : base ≤ w.heap.size) (h63 : n + m ≤ 140737488355328) (hbytes : (n + m) * bytes ≤ 140737488355328)
    (h : ∀ v' w', w'.ownsRow base e size v' (n + m) (xs ++ news) → Below base (w.alloc (.cells news.toArray e)) w' → (w.alloc (.cells news.toArray e)).grownBy w' v.ownBlock → Off v w v' → K (a.put o.dst v') w') :
    o.wp P a (w.alloc (.cells news.toArray e)) K Q := by
  have hn : ∀ j u, news[j]? = some u → (w.alloc (.cells news.toArray e)).cell? ((⟨w.heap.size, 0, none⟩ : Addr).add j) = some u := fun j u hu => cell_alloc_add w news e j u hu
  obtain ⟨v', w', hr, h2, h3, h4⟩ := run_append_own (P := P) (w.alloc (.cells news.toArray e)) base t o.type e i z size bytes ht hi hz hsize hby hzs hsz v n xs (hown.alloc _) ⟨w.heap.size, 0, none⟩ m c news hl hn h1 (by unfold maxLen; omega) hbytes (by simp; omega)
  have hoff := append_off (P := P) (w.alloc (.cells news.toArray e)) base t o.type e i z size bytes ht hi hz hsize hby v n xs (hown.alloc _) ⟨w.heap.size, 0, none⟩ m c news hl hsz hn h1 (by unfold maxLen; omega) hbytes hr
  unfold Oper.wp execOp
  simp only [ho, resolve, invoke, builtin, Sem.run_bind, Sem.run_pure, Result.andThen_ok, List.map_toArray, List.map_cons, List.map_nil, hs, hx, hr]
  exact h v' w' h2 ((Below.refl base _).grown h3 (by simp; omega) (fun k e => (hown.lt k e).1)) h3 (fun k hk => hoff k (by simp; omega))
theorem grown_at (w : World) (g j : Nat) (u : Value) : w.grownBy (w.setCell ⟨g, j, none⟩ u) (some g) :=
  ⟨rfl, rfl, rfl, by simp, fun k _ hk => heap_setCell_other w ⟨g, j, none⟩ k u (fun e => hk (by simp [e]))⟩
/-- A look-up at the operation. -/
theorem wp_look {o : Oper} {a : Act} {w : World} {K : Act → World → Prop} {Q : Exit → Act → World → Prop} (m x : Operand) (ho : o.op = .lookup 46 m x true) (b : Nat) (L : List SE) (e : SE)
    (hm : a.eval m = .map (some b)) (hx : a.eval x = e.val) (h : MapAt w b L) (hL : ∀ x ∈ L, x.ok) (hn : L.Nodup) (he : e.ok) (hK : K (a.put o.dst (.tuple #[.int .i64 (markI L e), .bool (decide (e ∈ L))])) w) : o.wp Try.prog a w K Q := by
  have hrun := h.lookup hL hn he
  unfold Oper.wp
  simp [execOp, ho, hm, hx, hrun, Result.andThen]
  exact hK
theorem wp_upd {o : Oper} {a : Act} {w : World} {K : Act → World → Prop} {Q : Exit → Act → World → Prop} (m x v : Operand) (ho : o.op = .mapUpdate 46 m x v) (b : Nat) (L : List SE) (e : SE)
    (hm : a.eval m = .map (some b)) (hx : a.eval x = e.val) (hv : a.eval v = .int .i64 L.length) (h : MapAt w b L) (hL : ∀ x ∈ L, x.ok) (he : e.ok) (hne : e ∉ L) (hK : ∀ w', MapAt w' b (L ++ [e]) → w.grownBy w' (some b) → K (a.put o.dst undef) w') : o.wp Try.prog a w K Q := by
  obtain ⟨w', hrun, h1, h2⟩ := h.update hL he hne
  unfold Oper.wp
  simp [execOp, ho, hm, hx, hv, hrun, Result.andThen]
  exact hK w' h1 h2
theorem signV_bad {L : List SE} {e : SE} (h : keyB e.a = false) : signV L e = .agg #[.int .i64 0, .string ⟨#[]⟩, .int .i64 0] ∧ addL L e = L := by simp [signV, addL, h]
theorem signV_old {L : List SE} {e : SE} (h : keyB e.a = true) (hm : e ∈ L) : signV L e = .agg #[.int .i64 e.a, .string e.s, .int .i64 (markI L e)] ∧ addL L e = L := by simp [signV, addL, h, hm, markI]
theorem signV_new {L : List SE} {e : SE} (h : keyB e.a = true) (hm : e ∉ L) : signV L e = .agg #[.int .i64 e.a, .string e.s, .int .i64 L.length] ∧ addL L e = L ++ [e] := by simp [signV, addL, h, hm, List.idxOf_append]
set_option maxHeartbeats 2000000 in
set_option maxRecDepth 100000 in
theorem sign_any (w : World) (base g b : Nat) (v : Value) (L : List SE) (e : SE) (h : RingAt w base g b v L) (he : e.ok) (hl : L.length ≤ 1000000) :
    Calls Try.prog 10 #[.pointer (some ⟨g, 0, none⟩), .int .i64 e.a, .string e.s] w fun r w' => ∃ v', r = .returned (signV L e) ∧ RingAt w' base g b v' (addL L e) ∧ Moved base w w' g b v v' := by
  have hbs : base ≤ w.heap.size := Nat.le_trans h.hg (Nat.le_of_lt h.lt)
  obtain ⟨A, c, rfl, _, _, _⟩ := caps_of_own h.row
  go_enter Try.func10, Try.ntmps10
  go_wp2_with fail
  refine (key_any _ _).mono ?_
  rintro e1 w1 ⟨rfl, hx1⟩
  have ob1 := (hx1.block w.heap.size (by simp)).trans (heap_alloc_new w _)
  have hx1 := ((Below.refl w.heap.size w).alloc (Nat.le_refl _) _).trans (hx1.mono (by simp))
  have h1 := h.ext hx1
  cases hk : keyB e.a
  · have HS := Lib.hid (signV_bad (L := L) hk)
    have f0 := frozen_of_row w1 w.heap.size 0 _ _ ob1
    have f1 := frozen_of_row w1 w.heap.size 1 _ _ ob1
    have f2 := frozen_of_row w1 w.heap.size 2 _ _ ob1
    obtain ⟨c0, c1, c2⟩ := cells3 ob1
    clear hk
    go_wp2_with fail
    clear c0 c1 c2 f0 f1 f2
    have ob9 := set3 ob1 (.int .i64 0) (.string ⟨#[]⟩) (.int .i64 0)
    have hx9 := below3 hx1 (Nat.le_refl _) (.int .i64 0) (.string ⟨#[]⟩) (.int .i64 0)
    generalize (((w1.setCell ⟨w.heap.size, 0, none⟩ (.int .i64 0)).setCell ⟨w.heap.size, 1, none⟩ (.string ⟨#[]⟩)).setCell ⟨w.heap.size, 2, none⟩ (.int .i64 0)) = w9 at ob9 hx9 ⊢
    obtain ⟨c0, c1, c2⟩ := cells3 ob9
    (try simp only [Exit.inBlock, Exit.then])
    refine bodyPost_ret (v := .agg #[.int .i64 0, .string ⟨#[]⟩, .int .i64 0]) (by simp [results, go_sem, c0, c1, c2]) rfl ?_
    rw [HS.out.1, HS.out.2]
    exact ⟨_, rfl, h.ext hx9, Moved.of_below hbs hx9⟩
  have HK := Lib.hid hk
  clear hk
  go_wp2_with fail
  have ob2 := heap_alloc_new w1 (.cells #[.int .i64 e.a, .string e.s] 32)
  have hx2 := lit_below w1 (.cells #[.int .i64 e.a, .string e.s] 32)
  have hszD := size_alloc w1 (.cells #[.int .i64 e.a, .string e.s] 32)
  generalize w1.alloc (.cells #[.int .i64 e.a, .string e.s] 32) = w2 at ob2 hx2 hszD ⊢
  have ob1' := (hx2.block w.heap.size (Array.getElem?_eq_some_iff.1 ob1).1).trans ob1
  have h2 := h1.ext hx2
  have hx2 := hx1.trans (hx2.mono hx1.size)
  have e0 : w2.cell? ⟨w1.heap.size, 0, none⟩ = some (.int .i64 e.a) := by rw [cell_of_row w2 _ _ _ _ (0, 0) ob2]; rfl
  have e1 : w2.cell? ⟨w1.heap.size, 1, none⟩ = some (.string e.s) := by rw [cell_of_row w2 _ _ _ _ (0, 0) ob2]; rfl
  have g1 := h2.cell1
  have r0 : w1.heap.size < w2.heap.size := by omega
  have r1 : g < w2.heap.size := h2.lt
  have hsz2 := hx2.size
  clear hszD
  refine wp_region_mix [(0, true), (1, true), (2, true), (3, true), (4, true), (5, false), (6, true), (7, true), (8, true), (9, true)] [10] (SB w.heap.size w w2.heap.size none _) (by kernel_rfl) (by kernel_rfl) (by kernel_rfl) (by kernel_rfl) (by decide) (SB.start hx2 (by omega)) (fun hS => ?_)
  simp only [planned, List.filterMap_cons, List.filterMap_nil, List.getElem?_cons_zero, List.getElem?_cons_succ, Option.map_some]
  repeat (first
    | (refine mix_skip (by rfl) ?_; try simp only [Act.put, List.setIfInBounds_toArray, List.set_cons_zero, List.set_cons_succ])
    | (refine mix_pass hS (by rfl) ?_; try simp only [Act.put, List.setIfInBounds_toArray, List.set_cons_zero, List.set_cons_succ])
    | (refine mix_pure (by rfl) (by rfl) (fun K hK => ?_); go_big_quiet_op; refine hK _ ?_; clear hK K)
    | (refine mix_take (by rfl) ?_
       apply Exists.intro
       refine ⟨?_, ?_⟩
       · intro w' hSw
         have hSc := hSw.cell
         clear hSw
         go_simp
         try with_reducible rfl
       try simp only [Act.put, List.setIfInBounds_toArray, List.set_cons_zero, List.set_cons_succ])
    | (refine mix_move (by rfl) (fun K hK => ?_)
       first
         | (refine wp_look _ _ rfl b L e rfl rfl h2.map.drew h2.ok h2.nodup he ?_)
         | go_simp
       try dsimp only
       first
         | refine hK.out _ _ (hS.step hx (by omega)) ?_
         | refine hK.out _ _ hS ?_
         | refine hK.out _ _ (hS.alloc _ (by omega)) ?_
         | refine hK.out _ _ (hS.grown hg hx) ?_
       clear hK K hS
       intro hS
       try simp only [Act.put, List.setIfInBounds_toArray, List.set_cons_zero, List.set_cons_succ])
    | fail)
  refine mix_nil ?_
  simp only [tailed, List.filterMap_cons, List.filterMap_nil, List.getElem?_cons_zero, List.getElem?_cons_succ]
  go_wp2_with fail
  refine NoPanic.normal ?_
  clear hS e0 e1 g1
  have h3 := h2.ext ((Below.refl w2.heap.size w2).drew)
  have hx3 := hx2.drew
  have ob1' : w2.drew.heap[w.heap.size]? = _ := ob1'
  have ob2 : w2.drew.heap[w1.heap.size]? = _ := ob2
  have hsz3 : w2.heap.size = w2.drew.heap.size := rfl
  rw [hsz3] at r0 r1 hsz2
  generalize w2.drew = w3 at h3 hx3 ob1' ob2 r0 r1 hsz2 ⊢
  clear h2 hx2 hsz3
  by_cases hm : e ∈ L
  · have HS := Lib.hid (signV_old HK.out hm)
    have f0 := frozen_of_row w3 w.heap.size 0 _ _ ob1'
    have f1 := frozen_of_row w3 w.heap.size 1 _ _ ob1'
    have f2 := frozen_of_row w3 w.heap.size 2 _ _ ob1'
    obtain ⟨c0, c1, c2⟩ := cells3 ob1'
    have hd : decide (e ∈ L) = true := decide_eq_true hm
    clear hm
    go_wp2_with fail
    clear c0 c1 c2 f0 f1 f2
    have ob9 := set3 ob1' (.int .i64 e.a) (.string e.s) (.int .i64 (markI L e))
    have hx9 := below3 hx3 (Nat.le_refl _) (.int .i64 e.a) (.string e.s) (.int .i64 (markI L e))
    generalize (((w3.setCell ⟨w.heap.size, 0, none⟩ (.int .i64 e.a)).setCell ⟨w.heap.size, 1, none⟩ (.string e.s)).setCell ⟨w.heap.size, 2, none⟩ (.int .i64 (markI L e))) = w9 at ob9 hx9 ⊢
    obtain ⟨c0, c1, c2⟩ := cells3 ob9
    (try simp only [Exit.inBlock, Exit.then])
    refine bodyPost_ret (v := .agg #[.int .i64 e.a, .string e.s, .int .i64 (markI L e)]) (by simp [results, go_sem, c0, c1, c2]) rfl ?_
    rw [HS.out.1, HS.out.2]
    exact ⟨_, rfl, h.ext hx9, Moved.of_below hbs hx9⟩
  have HS := Lib.hid (signV_new HK.out hm)
  have hd : decide (e ∈ L) = false := decide_eq_false hm
  have HM := Lib.hid hm
  clear hm
  obtain ⟨ie, ei, ez0, ez1, ez2⟩ := info_parts info_sealed
  have g0 := h3.cell0
  have g1 := h3.cell1
  have e0 : w3.cell? ⟨w1.heap.size, 0, none⟩ = some (.int .i64 e.a) := by rw [cell_of_row w3 _ _ _ _ (0, 0) ob2]; rfl
  have e1 : w3.cell? ⟨w1.heap.size, 1, none⟩ = some (.string e.s) := by rw [cell_of_row w3 _ _ _ _ (0, 0) ob2]; rfl
  have n1 : some g ≠ (Value.slice A L.length c).ownBlock := fun e => h3.rowg e.symm
  have n2 : some w1.heap.size ≠ (Value.slice A L.length c).ownBlock := fun e => by have := (h.row.lt _ e.symm).2; have := hx1.size; omega
  have hx3b := hx3.mono hbs
  have hbs3 : base ≤ w3.heap.size := Nat.le_trans hbs hx3.size
  have hN1 := Lib.hid n1
  go_wp2_with fail
  clear hd
  refine wp_region_mix [(0, true), (1, true), (2, true), (3, true), (4, true), (5, true), (6, false), (7, false)] [8, 9, 10] (SB base w w3.heap.size (Value.slice A L.length c).ownBlock _) (by kernel_rfl) (by kernel_rfl) (by kernel_rfl) (by kernel_rfl) (by decide) (SB.start hx3b (by omega)) (fun hS => ?_)
  simp only [planned, List.filterMap_cons, List.filterMap_nil, List.getElem?_cons_zero, List.getElem?_cons_succ, Option.map_some]
  repeat (first
    | (refine mix_skip (by rfl) ?_; try simp only [Act.put, List.setIfInBounds_toArray, List.set_cons_zero, List.set_cons_succ])
    | (refine mix_pass hS (by rfl) ?_; try simp only [Act.put, List.setIfInBounds_toArray, List.set_cons_zero, List.set_cons_succ])
    | (refine mix_pure (by rfl) (by rfl) (fun K hK => ?_); go_big_quiet_op; refine hK _ ?_; clear hK K)
    | (refine mix_take (by rfl) ?_
       apply Exists.intro
       refine ⟨?_, ?_⟩
       · intro w' hSw
         have hSc := hSw.cell
         clear hSw
         go_simp
         try with_reducible rfl
       try simp only [Act.put, List.setIfInBounds_toArray, List.set_cons_zero, List.set_cons_succ])
    | (refine mix_move (by rfl) (fun K hK => ?_)
       first
         | (refine wp_push4 _ _ 22 rfl base 32 ie _ 2 24 Try.underlying22 ei ez0 ez1 ez2 rfl (by decide) w3.drew (.slice A L.length c) L.length (SE.cells L) rfl h3.row.drew 1 1 [.int .i64 e.a, .string e.s] rfl rfl (by intro u hu; simp at hu; rcases hu with rfl | rfl <;> rfl) hbs3 (by omega) (by omega) ?_; intro v4 w4 own4 hx hg ho)
         | go_simp
       try dsimp only
       first
         | refine hK.out _ _ (hS.step hx (by omega)) ?_
         | refine hK.out _ _ hS ?_
         | refine hK.out _ _ (hS.alloc _ (by omega)) ?_
         | refine hK.out _ _ (hS.grown hg hx) ?_
       clear hK K hS
       intro hS
       try simp only [Act.put, List.setIfInBounds_toArray, List.set_cons_zero, List.set_cons_succ])
    | fail)
  refine mix_nil ?_
  simp only [tailed, List.filterMap_cons, List.filterMap_nil, List.getElem?_cons_zero, List.getElem?_cons_succ]
  obtain ⟨A4, c4, rfl, _, _, _⟩ := caps_of_own own4
  have lrow : ∀ k, (Value.slice A L.length c).ownBlock = some k → k < w.heap.size := fun k e => (h.row.lt k e).2
  have old4 : ∀ k, k < w3.heap.size → some k ≠ (Value.slice A L.length c).ownBlock → w4.heap[k]? = w3.heap[k]? := fun k hk hne => (hg.block k (by simp; omega) hne).trans (Below.heap_alloc w3.drew _ k hk)
  have obg4 := (old4 g h3.lt n1).trans h3.box
  have m4 : some b ≠ (Value.slice A L.length c).ownBlock := fun e => h3.rowb e.symm
  have map4 : MapAt w4 b L := by
    obtain ⟨es, clock, hb, hes⟩ := h3.map
    exact ⟨es, clock, (old4 b h3.ltb m4).trans hb, hes⟩
  have n0 : some w.heap.size ≠ (Value.slice A L.length c).ownBlock := fun e => by have := lrow _ e.symm; omega
  have r00 : w.heap.size < w3.heap.size := (Array.getElem?_eq_some_iff.1 ob1').1
  have ob14 := (old4 w.heap.size r00 n0).trans ob1'
  have ob24 := (old4 w1.heap.size r0 n2).trans ob2
  have v4g : (.slice A4 (L.length + 1) c4 : Value).ownBlock ≠ some g := ho g h3.lt h3.rowg
  have v4b : (.slice A4 (L.length + 1) c4 : Value).ownBlock ≠ some b := ho b h3.ltb h3.rowb
  have gne : w.heap.size ≠ g := by have := h.lt; omega
  have gne2 : w1.heap.size ≠ g := by have := h1.lt; omega
  have hx4 := hS.below
  have q0 : w4.cell? ⟨g, 0, none⟩ = some (.slice A L.length c) := by rw [cell_of_row w4 _ _ _ _ (0, 0) obg4]; rfl
  have qf := frozen_of_row w4 g 0 _ _ obg4
  have obg5 : (w4.setCell ⟨g, 0, none⟩ (.slice A4 (L.length + 1) c4)).heap[g]? = some (.cells #[(.slice A4 (L.length + 1) c4), .map (some b)] 48 (0, 0)) := heap_setCell_same w4 g 0 _ _ (.slice A4 (L.length + 1) c4) obg4
  have map5 : MapAt (w4.setCell ⟨g, 0, none⟩ (.slice A4 (L.length + 1) c4)) b L := by
    obtain ⟨es, clock, hb, hes⟩ := map4
    exact ⟨es, clock, (heap_setCell_other w4 ⟨g, 0, none⟩ b (.slice A4 (L.length + 1) c4) (Ne.symm h3.gb)).trans hb, hes⟩
  have own5 := own4.kept (grown_at w4 g 0 (.slice A4 (L.length + 1) c4)) (.inr v4g)
  have hx5 := hx4.setCell (p := ⟨g, 0, none⟩) h.hg (.slice A4 (L.length + 1) c4)
  have ob15 := (heap_setCell_other w4 ⟨g, 0, none⟩ w.heap.size (.slice A4 (L.length + 1) c4) gne).trans ob14
  have ob25 := (heap_setCell_other w4 ⟨g, 0, none⟩ w1.heap.size (.slice A4 (L.length + 1) c4) gne2).trans ob24
  have old5 : ∀ k, k < w3.heap.size → k ≠ g → some k ≠ (Value.slice A L.length c).ownBlock → (w4.setCell ⟨g, 0, none⟩ (.slice A4 (L.length + 1) c4)).heap[k]? = w3.heap[k]? := fun k hk h1 h2 => (heap_setCell_other w4 ⟨g, 0, none⟩ k (.slice A4 (L.length + 1) c4) h1).trans (old4 k hk h2)
  clear e0 e1 g0 g1 old4
  go_wp2_with fail
  refine NoPanic.normal ?_
  clear q0 qf hS hg obg4 map4 own4 hx4 ob14 ob24
  generalize w4.setCell ⟨g, 0, none⟩ (.slice A4 (L.length + 1) c4) = w5 at obg5 map5 own5 hx5 ob15 ob25 old5 ⊢
  have g1 : w5.cell? ⟨g, 1, none⟩ = some (.map (some b)) := by rw [cell_of_row w5 _ _ _ _ (0, 0) obg5]; rfl
  have e0 : w5.cell? ⟨w1.heap.size, 0, none⟩ = some (.int .i64 e.a) := by rw [cell_of_row w5 _ _ _ _ (0, 0) ob25]; rfl
  have e1 : w5.cell? ⟨w1.heap.size, 1, none⟩ = some (.string e.s) := by rw [cell_of_row w5 _ _ _ _ (0, 0) ob25]; rfl
  have r5 : w1.heap.size < w5.heap.size := (Array.getElem?_eq_some_iff.1 ob25).1
  have r6 : g < w5.heap.size := (Array.getElem?_eq_some_iff.1 obg5).1
  have s5 : base ≤ w5.heap.size := Nat.le_trans hbs hx5.size
  go_wp2_with fail
  refine wp_region_mix [(0, true), (1, true), (2, true), (3, true), (4, true), (5, true)] [6] (SB base w w5.heap.size none _) (by kernel_rfl) (by kernel_rfl) (by kernel_rfl) (by kernel_rfl) (by decide) (SB.start hx5 (by omega)) (fun hS => ?_)
  simp only [planned, List.filterMap_cons, List.filterMap_nil, List.getElem?_cons_zero, List.getElem?_cons_succ, Option.map_some]
  repeat (first
    | (refine mix_skip (by rfl) ?_; try simp only [Act.put, List.setIfInBounds_toArray, List.set_cons_zero, List.set_cons_succ])
    | (refine mix_pass hS (by rfl) ?_; try simp only [Act.put, List.setIfInBounds_toArray, List.set_cons_zero, List.set_cons_succ])
    | (refine mix_pure (by rfl) (by rfl) (fun K hK => ?_); go_big_quiet_op; refine hK _ ?_; clear hK K)
    | (refine mix_take (by rfl) ?_
       apply Exists.intro
       refine ⟨?_, ?_⟩
       · intro w' hSw
         have hSc := hSw.cell
         clear hSw
         go_simp
         try with_reducible rfl
       try simp only [Act.put, List.setIfInBounds_toArray, List.set_cons_zero, List.set_cons_succ])
    | (refine mix_move (by rfl) (fun K hK => ?_)
       go_simp
       try dsimp only
       first
         | refine hK.out _ _ (hS.step hx (by omega)) ?_
         | refine hK.out _ _ hS ?_
         | refine hK.out _ _ (hS.alloc _ (by omega)) ?_
         | refine hK.out _ _ (hS.grown hg hx) ?_
       clear hK K hS
       intro hS
       try simp only [Act.put, List.setIfInBounds_toArray, List.set_cons_zero, List.set_cons_succ])
    | fail)
  refine mix_nil ?_
  simp only [tailed, List.filterMap_cons, List.filterMap_nil, List.getElem?_cons_zero, List.getElem?_cons_succ]
  refine wpList_plain rfl fun K hK => ?_
  refine wp_upd _ _ _ rfl b L e rfl rfl rfl map5.drew h3.ok he HM.out ?_
  intro w6 hm6 hg6
  refine hK _ _ ?_
  clear hK K
  have old6 : ∀ k, k < w5.heap.size → k ≠ b → w6.heap[k]? = w5.heap[k]? := fun k hk hne => hg6.block k hk (fun e => hne (by simpa using e))
  have own6 := own5.drew.kept hg6 (.inr v4b)
  have hx6 : Below base w w6 := hx5.drew.trans ((Below.refl base _).grown hg6 s5 (fun k e => by simp only [Option.some.injEq] at e; subst e; exact h.hb))
  have bne : w.heap.size ≠ b := by have := h.ltb; omega
  have r55 : w.heap.size < w5.heap.size := (Array.getElem?_eq_some_iff.1 ob15).1
  have ob16 := (old6 _ r55 bne).trans ob15
  have obg6 := (old6 _ r6 h3.gb).trans obg5
  have s6 : w5.heap.size ≤ w6.heap.size := hg6.size
  clear hS e0 e1 g1 map5 own5 hx5 obg5 ob15 ob25 hg6
  have f0 := frozen_of_row w6 w.heap.size 0 _ _ ob16
  have f1 := frozen_of_row w6 w.heap.size 1 _ _ ob16
  have f2 := frozen_of_row w6 w.heap.size 2 _ _ ob16
  obtain ⟨c0, c1, c2⟩ := cells3 ob16
  go_wp2_with fail
  refine NoPanic.normal ?_
  go_wp2_with fail
  clear c0 c1 c2 f0 f1 f2
  have ob9 := set3 ob16 (.int .i64 e.a) (.string e.s) (.int .i64 L.length)
  have hx9 := below3 hx6 hbs (.int .i64 e.a) (.string e.s) (.int .i64 L.length)
  have old9 := fun k (hk : k ≠ w.heap.size) => other3 (w := w6) hk (.int .i64 e.a) (.string e.s) (.int .i64 L.length)
  generalize (((w6.setCell ⟨w.heap.size, 0, none⟩ (.int .i64 e.a)).setCell ⟨w.heap.size, 1, none⟩ (.string e.s)).setCell ⟨w.heap.size, 2, none⟩ (.int .i64 L.length)) = w9 at ob9 hx9 old9 ⊢
  obtain ⟨c0, c1, c2⟩ := cells3 ob9
  (try simp only [Exit.inBlock, Exit.then])
  refine bodyPost_ret (v := .agg #[.int .i64 e.a, .string e.s, .int .i64 L.length]) (by simp [results, go_sem, c0, c1, c2]) rfl ?_
  rw [HS.out.1, HS.out.2]
  have lt4 : ∀ k, (Value.slice A4 (L.length + 1) c4).ownBlock = some k → k ≠ w.heap.size := fun k e1 e2 => by
    rcases own6.2 with ⟨h0, _⟩ | ⟨q, cap, cur, h0, q1, q2, q3⟩
    · simp only [Value.slice.injEq] at h0; rw [h0.1] at e1; simp [Value.ownBlock] at e1
    · rw [h0] at e1
      simp only [Value.ownBlock, Option.some.injEq] at e1
      rw [e1, e2, ob16] at q2
      simp only [Option.some.injEq, Obj.cells.injEq] at q2
      exact absurd q2.2.1 (by decide)
  refine ⟨_, rfl, ⟨(old9 g (Ne.symm gne)).trans obg6, ?_, ?_, ?_, ?_, h.hg, h.hb⟩, ⟨hx9, ?_, ?_⟩⟩
  · obtain ⟨es, clock, hb, hes⟩ := hm6
    exact ⟨es, clock, (old9 b (Ne.symm bne)).trans hb, hes⟩
  · rw [List.length_append, SE.append]
    refine ⟨own6.1, ?_⟩
    rcases own6.2 with h0 | ⟨k, cap, cur, hv, k1, k2, k3⟩
    · exact .inl h0
    · exact .inr ⟨k, cap, cur, hv, k1, (old9 k (lt4 k (by rw [hv]; rfl))).trans k2, k3⟩
  · exact List.nodup_append.2 ⟨h.nodup, by simp, by intro a ha b hb; simp at hb; subst hb; exact fun e => HM.out (e ▸ ha)⟩
  · intro x hx
    rcases List.mem_append.1 hx with hx | hx
    · exact h.ok x hx
    · simp at hx; subst hx; exact he
  · intro k hk k1 k2 k3
    have k4 : k < w3.heap.size := by omega
    have := hx3.block k hk
    rw [old9 k (by omega), old6 k (by omega) k2, old5 k k4 k1 (Ne.symm k3), this]
  · intro k hk k3
    exact ho k (by simp; omega) k3
end Go.Proofs.Ytappligfampdjaa
