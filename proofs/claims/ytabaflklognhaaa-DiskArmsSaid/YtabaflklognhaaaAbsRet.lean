/-
  Results that lie in boxes. Conditions: none.
-/
import Derived.Test.YtabaflklognhaaaAbsNorm
namespace Go.Proofs.Ytabaflklognhaaa
open Go.RowKit

section
variable {E : Entry} {sl : Slots} {ob : Objs} {a : Act} {w : World} {Pr : Prot} {β : Nat → Value} {κ : Nat → Nat}
/-- What a result variable shows. -/
inductive ResX (sl : Slots) (ob : Objs) : ResultVar → D → Prop where
  | tmp (t : Nat) (d : D) (h : ToD ob (look sl t) d) : ResX sl ob (.tmp t) d
  | cellA (t ty i k : Nat) (T : TypeId) (l : List V) (ds : List D) (hx : look sl t = .box i 0) (hf : find ob i = some (.box T l)) (hT : aggK (ti ty) = some k) (hl : unD ((l.drop 0).take k) = some ds) (hk : ds.length = k) : ResX sl ob (.cell t ty) (.agg ds)
  | cell1 (t ty i : Nat) (T : TypeId) (v : V) (d : D) (hx : look sl t = .box i 0) (hf : find ob i = some (.box T [v])) (hT : isOne (ti ty) = true) (h : ToD ob v d) : ResX sl ob (.cell t ty) d
def resRun (tmps : Array Value) : ResultVar → Sem Value
  | .tmp t => pure (tmps.getD t undef)
  | .cell a t => do loadVar t (← asAddr (tmps.getD a undef))
theorem res_run (h : Good E sl ob a w Pr β κ) {rv : ResultVar} {d : D} (hr : ResX sl ob rv d) : ∃ v, (resRun a.tmps rv).run Try.prog w = .ok v w ∧ RepD w Pr v d := by
  cases hr with
  | tmp t d hd => exact ⟨_, rfl, toD_rep h hd _ (h.slots t)⟩
  | cellA t ty i k T l ds hx hf hT hl hk =>
    obtain ⟨v, hv, hrun⟩ := y_bloadA (d := some 0) (t := ty) (T := 0) (p := "") (af := #[]) (g := none) (x := .tmp t) (show ev sl (.tmp t) = .box i 0 from hx) hf hT hl hk a w Pr β κ h
    have hr := hrun w (.refl _ _ _ _)
    obtain ⟨b, cs, hav, _, hh, hcl, _, hc⟩ := box_at (x := .tmp t) h hx hf
    have e : a.tmps.getD t undef = .pointer (some ⟨b, 0, none⟩) := hav
    refine ⟨v, ?_, hv.d_inv⟩
    simp only [execOp, Sem.run_bind] at hr
    have e2 : (Instr.loadAt ty (a.eval (.tmp t))).run Try.prog w = .ok v w := by
      cases hq : (Instr.loadAt ty (a.eval (.tmp t))).run Try.prog w with
      | ok q w2 => rw [hq] at hr; simp [Result.andThen] at hr; rw [hr.1, hr.2]
      | halt q w2 => rw [hq] at hr; simp [Result.andThen] at hr
    rw [hav] at e2
    simp only [resRun, e, asAddr, Sem.run_bind]
    simpa [Instr.loadAt, Instr.sureAddr] using e2
  | cell1 t ty i T v d hx hf hT hd =>
    obtain ⟨b, cs, hav, _, hh, hcl, hcv, hc⟩ := box_at (x := .tmp t) h hx hf
    have e : a.tmps.getD t undef = .pointer (some ⟨b, 0, none⟩) := hav
    have h0 : cs[0]? = some (cs[0]'(by rw [hcl]; simp)) := List.getElem?_eq_getElem _
    refine ⟨_, ?_, toD_rep h hd _ (hcv 0 _ v h0 rfl)⟩
    have := run_load_one (t := ty) w hT (hc w (.refl _ _ _ _) 0 _ h0)
    simp only [resRun, e, asAddr, Sem.run_bind]
    simpa [Instr.loadAt, Instr.sureAddr] using this
theorem results_eq (fn : Func) (tmps : Array Value) : results fn tmps = (do let vs ← fn.results.mapM (resRun tmps); pure (if h : vs.size = 1 then vs[0] else .tuple vs) : Sem Value) := by
  unfold results
  congr 1
theorem results_run1 {fn : Func} {rv : ResultVar} {v : Value} {tmps : Array Value} (hr : fn.results = #[rv]) (h : (resRun tmps rv).run Try.prog w = .ok v w) : (results fn tmps).run Try.prog w = .ok v w := by
  rw [results_eq, hr]
  simp [h]
theorem results_run2 {fn : Func} {r1 r2 : ResultVar} {v1 v2 : Value} {tmps : Array Value} (hr : fn.results = #[r1, r2]) (h1 : (resRun tmps r1).run Try.prog w = .ok v1 w) (h2 : (resRun tmps r2).run Try.prog w = .ok v2 w) : (results fn tmps).run Try.prog w = .ok (.tuple #[v1, v2]) w := by
  rw [results_eq, hr]
  simp [h1, h2]
theorem results_run3 {fn : Func} {r1 r2 r3 : ResultVar} {v1 v2 v3 : Value} {tmps : Array Value} (hr : fn.results = #[r1, r2, r3]) (h1 : (resRun tmps r1).run Try.prog w = .ok v1 w) (h2 : (resRun tmps r2).run Try.prog w = .ok v2 w) (h3 : (resRun tmps r3).run Try.prog w = .ok v3 w) : (results fn tmps).run Try.prog w = .ok (.tuple #[v1, v2, v3]) w := by
  rw [results_eq, hr]
  simp [h1, h2, h3]
theorem ret1x {fn : Func} {Post : D → Prop} {r1 : ResultVar} {d1 : D} (hr : fn.results = #[r1]) (h1 : ResX sl ob r1 d1) (hp : Post d1) (h0 : E.ob0 = [] := by rfl) : AQ E .ret (bodyPost Try.prog fn (PostR E.w E.pr Post)) sl ob := by
  refine ⟨fun a w hi => ?_⟩
  obtain ⟨Pr, β, κ, hg⟩ := hi
  obtain ⟨v1, e1, k1⟩ := res_run hg h1
  exact bodyPost_ret (results_run1 hr e1) hg.defers ⟨_, d1, rfl, hp, k1.keep (fun _ _ _ => rfl) (prNew_of h0 hg), below_of h0 hg⟩
theorem ret2x {fn : Func} {Post : D → Prop} {r1 r2 : ResultVar} {d1 d2 : D} (hr : fn.results = #[r1, r2]) (h1 : ResX sl ob r1 d1) (h2 : ResX sl ob r2 d2) (hp : Post (.tup [d1, d2])) (h0 : E.ob0 = [] := by rfl) : AQ E .ret (bodyPost Try.prog fn (PostR E.w E.pr Post)) sl ob := by
  refine ⟨fun a w hi => ?_⟩
  obtain ⟨Pr, β, κ, hg⟩ := hi
  obtain ⟨v1, e1, k1⟩ := res_run hg h1
  obtain ⟨v2, e2, k2⟩ := res_run hg h2
  refine bodyPost_ret (results_run2 hr e1 e2) hg.defers ⟨_, _, rfl, hp, ?_, below_of h0 hg⟩
  have q1 := k1.keep (fun _ _ _ => rfl) (prNew_of h0 hg)
  have q2 := k2.keep (fun _ _ _ => rfl) (prNew_of h0 hg)
  refine .tup [_, _] _ rfl (fun i v d h1 h2 => ?_)
  match i with
  | 0 => cases h1; cases h2; exact q1
  | 1 => cases h1; cases h2; exact q2
theorem ret3x {fn : Func} {Post : D → Prop} {r1 r2 r3 : ResultVar} {d1 d2 d3 : D} (hr : fn.results = #[r1, r2, r3]) (h1 : ResX sl ob r1 d1) (h2 : ResX sl ob r2 d2) (h3 : ResX sl ob r3 d3) (hp : Post (.tup [d1, d2, d3])) (h0 : E.ob0 = [] := by rfl) : AQ E .ret (bodyPost Try.prog fn (PostR E.w E.pr Post)) sl ob := by
  refine ⟨fun a w hi => ?_⟩
  obtain ⟨Pr, β, κ, hg⟩ := hi
  obtain ⟨v1, e1, k1⟩ := res_run hg h1
  obtain ⟨v2, e2, k2⟩ := res_run hg h2
  obtain ⟨v3, e3, k3⟩ := res_run hg h3
  refine bodyPost_ret (results_run3 hr e1 e2 e3) hg.defers ⟨_, _, rfl, hp, ?_, below_of h0 hg⟩
  have q1 := k1.keep (fun _ _ _ => rfl) (prNew_of h0 hg)
  have q2 := k2.keep (fun _ _ _ => rfl) (prNew_of h0 hg)
  have q3 := k3.keep (fun _ _ _ => rfl) (prNew_of h0 hg)
  refine .tup [_, _, _] _ rfl (fun i v d h1 h2 => ?_)
  match i with
  | 0 => cases h1; cases h2; exact q1
  | 1 => cases h1; cases h2; exact q2
  | 2 => cases h1; cases h2; exact q3
end
end Go.Proofs.Ytabaflklognhaaa
