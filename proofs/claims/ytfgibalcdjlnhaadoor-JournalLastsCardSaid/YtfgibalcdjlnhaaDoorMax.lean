/-
  The plain law of the journal: a journal and its file, where no crash is scheduled. Conditions: none.
  The journal's laws: contracts with given results, where no crash is scheduled. Conditions: none.
  The plain law of the journal: a journal and its file, whatever happens. Conditions: none.
-/
import Derived.Test.YtfgibalcdjlnhaaDoorMaw
section
namespace Go.Proofs.YtfgibalcdjlnhaaDoor
open Go.RowKit

structure JInv (st : DS) (f : Int) (j : Option JS) (A : List ByteArray) (n : Nat) : Prop where
  fin : FInv st f A []
  up : Up st
  small : ∀ t ∈ A, t.size ≤ 200
  len : A.length ≤ n
  js : ∀ js, j = some js → js.f = f ∧ (∀ t ∈ js.rs, t.size ≤ 200) ∧ js.rs.length ≤ n ∧ (js.bad = false → js.rs = A ∧ ∃ D, Cl st f js.rs D)
theorem JInv.mono {st : DS} {f : Int} {j : Option JS} {A : List ByteArray} {n : Nat} (h : JInv st f j A n) : JInv st f j A (n + 1) :=
  ⟨h.fin, h.up, h.small, by have := h.len; omega, fun js hj => by obtain ⟨a, b, c, d⟩ := h.js js hj; exact ⟨a, b, by omega, d⟩⟩
theorem app_bad {js : JS} (h : js.bad = true) (st : DS) (s : ByteArray) : appJ js st s = (7, js, st) := if_pos h
theorem sync_bad {js : JS} (h : js.bad = true) (st : DS) : syncJ js st = (7, js, st) := if_pos h
/-- Append -/
theorem JInv.app {st : DS} {f : Int} {js : JS} {A : List ByteArray} {n : Nat} (h : JInv st f (some js) A n) (hf : 0 ≤ f ∧ f ≤ 15) (hn : n ≤ 100) {s : ByteArray} (hs : s.size ≤ 200) :
    ∃ e ju su A', appJ js st s = (e, ju, su) ∧ JInv su f (some ju) A' (n + 1) ∧ ((e = 7 ∧ js.bad = true ∧ ju = js) ∨ (e = 0 ∧ js.bad = false ∧ ju = { js with rs := js.rs ++ [s] })) ∧ su.lost = st.lost := by
  obtain ⟨h1, h2, h3, h4⟩ := h.js js rfl
  cases hb : js.bad
  · obtain ⟨h5, D, h6⟩ := h4 hb
    have hbd := forms_bd js.rs h2
    have hfz := formB_size s (by omega)
    subst h1
    obtain ⟨su, a1, a2, a3, a4, a5, a6⟩ := app_plain hb h.up hf h6.now (s := s) (by omega) (by omega)
    have hC : Cl su js.f (js.rs ++ [s]) D := ⟨a4, by rw [a6]; exact h6.last, h6.pre.trans (List.prefix_append _ _)⟩
    have hsm : ∀ t ∈ js.rs ++ [s], t.size ≤ 200 := fun t ht => by
      rcases List.mem_append.1 ht with ht | ht
      · exact h2 t ht
      · simp at ht
        subst ht
        exact hs
    refine ⟨0, _, su, js.rs ++ [s], a1, ⟨.inl ⟨_, D, hC, List.prefix_refl _, List.nil_prefix⟩, a2, hsm, by simp; omega, fun ju hj => ?_⟩, .inr ⟨rfl, rfl, by rw [← hb]⟩, a3⟩
    cases hj
    exact ⟨rfl, hsm, by simp; omega, fun _ => ⟨rfl, D, hC⟩⟩
  · exact ⟨7, js, st, A, app_bad hb st s, h.mono, .inl ⟨rfl, rfl, rfl⟩, rfl⟩
/-- Sync -/
theorem JInv.sync {st : DS} {f : Int} {js : JS} {A : List ByteArray} {n : Nat} (h : JInv st f (some js) A n) (hok : st.Ok) (hf : 0 ≤ f ∧ f ≤ 15) :
    ∃ e ju su, syncJ js st = (e, ju, su) ∧ JInv su f (some ju) A n ∧ ju.rs = js.rs ∧ (e = 0 → ju = js ∧ L (su.F f).now = forms js.rs ∧ (su.F f).last = (su.F f).now ∧ ∀ p ∈ su.Q, p.1 ≠ f) := by
  obtain ⟨h1, h2, h3, h4⟩ := h.js js rfl
  cases hb : js.bad
  · obtain ⟨h5, D, h6⟩ := h4 hb
    subst h1
    have hl := jsync_law hb hok h6 h5 List.nil_prefix h.small hf
    have hS := sync_law h.fin hok h.small hf
    have hup : Up (syncJ js st).2.2 := by
      unfold syncJ
      rw [if_neg (by rw [hb]; decide)]
      exact h.up.sync js.f
    have h2' : (syncJ js st).2.2 = (syncR st js.f).2 ∧ (syncJ js st).1 = (syncR st js.f).1 := by
      unfold syncJ
      rw [if_neg (by rw [hb]; decide)]
      exact ⟨rfl, rfl⟩
    obtain ⟨e, ju, su, hE⟩ : ∃ e ju su, syncJ js st = (e, ju, su) := ⟨_, _, _, rfl⟩
    rw [hE] at hl hup h2'
    dsimp only at hl hup h2'
    refine ⟨e, ju, su, hE, ?_⟩
    rcases hl with ⟨k1, k2, k3⟩ | ⟨k1, k2, k3⟩
    · obtain rfl : ju = js := k2
      refine ⟨⟨.inl ⟨_, _, k3, by rw [h5]; exact List.prefix_refl _, List.nil_prefix⟩, hup, h.small, h.len, fun ju hj => ?_⟩, rfl, fun he => ⟨rfl, k3.now, ?_, ?_⟩⟩
      · cases hj
        exact ⟨rfl, h2, h3, fun _ => ⟨h5, _, k3⟩⟩
      · exact ba_ext (k3.last.trans k3.now.symm)
      · have := hS.2.2.1 (by rw [← h2'.2]; exact he)
        rw [h2'.1]
        exact this.2.1
    · obtain rfl : ju = { js with bad := true } := k2
      refine ⟨⟨k3, hup, h.small, h.len, fun ju hj => ?_⟩, rfl, fun he => absurd he k1⟩
      cases hj
      exact ⟨rfl, h2, h3, fun hc => by cases hc⟩
  · refine ⟨7, js, st, sync_bad hb st, h, rfl, fun he => by cases he⟩
theorem JInv.lose {st : DS} {f : Int} {j : Option JS} {A : List ByteArray} {n : Nat} (h : JInv st f j A n) (m : Int) : JInv { st with lost := m } f j A n :=
  ⟨h.fin.of rfl (fun p hp _ => hp), h.up, h.small, h.len, fun js hj => by
    obtain ⟨a, b, c, d⟩ := h.js js hj
    exact ⟨a, b, c, fun hb => by obtain ⟨e, D, hC⟩ := d hb; exact ⟨e, D, hC.of rfl⟩⟩⟩
theorem JInv.crash {st : DS} {f : Int} {j : Option JS} {A : List ByteArray} {n : Nat} (h : JInv st f j A n) (hok : st.Ok) (keep : List Int) : JInv (upS (crashS st keep)) f none A n :=
  ⟨(h.fin.crash hok h.small keep).of rfl (fun p hp _ => hp), h.up.crash keep, h.small, h.len, fun js hj => by cases hj⟩
theorem JInv.open_ {st : DS} {f : Int} {A : List ByteArray} {n : Nat} (h : JInv st f none A n) (hok : st.Ok) (hok2 : (syncR st f).2.Ok) (hf : 0 ≤ f ∧ f ≤ 15) : ∃ e j su A', openJ st f = (e, j, su) ∧ JInv su f j A' n ∧ (j ≠ none → e = 0) := by
  obtain ⟨e, j, su, hE⟩ : ∃ e j su, openJ st f = (e, j, su) := ⟨_, _, _, rfl⟩
  have hl := open_law h.fin hok hok2 h.small hf
  have hup := h.up.open_ f
  rw [hE] at hl hup
  rcases hl with ⟨js, k1, k2, k3, k4, k5, k6, _⟩ | ⟨k1, k2, k3, _⟩
  · obtain rfl : j = some js := k2
    have hsm : ∀ t ∈ js.rs, t.size ≤ 200 := fun t ht => h.small t (k6.subset ht)
    have hle : js.rs.length ≤ n := Nat.le_trans k6.length_le h.len
    refine ⟨e, _, su, js.rs, hE, ⟨.inl ⟨_, _, k5, List.prefix_refl _, List.nil_prefix⟩, hup, hsm, hle, fun ju hj => ?_⟩, fun _ => k1⟩
    cases hj
    exact ⟨k3, hsm, hle, fun _ => ⟨rfl, _, k5⟩⟩
  · obtain rfl : j = none := k2
    exact ⟨e, none, su, A, hE, ⟨k3, hup, h.small, h.len, fun ju hj => by cases hj⟩, fun h => absurd rfl h⟩
theorem JInv.jok {st : DS} {f : Int} {js : JS} {A : List ByteArray} {n : Nat} (h : JInv st f (some js) A n) (hf : 0 ≤ f ∧ f ≤ 15) (hn : n ≤ 100) : js.Ok := by
  obtain ⟨h1, h2, h3, _⟩ := h.js js rfl
  have := forms_bd js.rs h2
  exact ⟨by rw [h1]; exact hf, fun t ht => by have := h2 t ht; omega, by omega⟩
theorem crash_lost (st : DS) (keep : List Int) : (upS (crashS st keep)).lost = st.lost := by
  unfold crashS upS
  split <;> rfl
end Go.Proofs.YtfgibalcdjlnhaaDoor
end
section
namespace Go.Proofs.YtfgibalcdjlnhaaDoor
open Go.RowKit Go.ChangeMaps

section
variable {kk k cm cs : Nat} {lm ls : List ME} {st su : DS} {js ju : JS}
theorem DkOk.lose (h : DkOk lm ls st) {n : Int} (hn : i64 n) : DkOk lm ls { st with lost := max n 0 } := ⟨h.f, h.s, ⟨h.ok.now, h.ok.last, h.ok.out, h.ok.nodup, h.ok.file, h.ok.num, (by show 0 ≤ max n 0 ∧ max n 0 ≤ _; unfold i64 at hn; omega), h.ok.armed0, h.ok.keepl⟩⟩
end
end Go.Proofs.YtfgibalcdjlnhaaDoor
end
section
namespace Go.Proofs.YtfgibalcdjlnhaaDoor
open Go.RowKit

theorem DS.Ok.sync {st : DS} (h : st.Ok) {f : Int} (hf : 0 ≤ f ∧ f ≤ 15) : (syncR st f).2.Ok := by
  have h2 := endS_ok h
  unfold syncR
  split
  · exact h2.crash _
  · split
    · exact h2
    · split
      · have := h2.lost0
        exact ⟨h2.now, h2.last, h2.out, h2.nodup, h2.file, h2.num, (by show 0 ≤ (endS st).lost - 1 ∧ (endS st).lost - 1 ≤ _; omega), h2.armed0, h2.keepl⟩
      · exact h2.settle (by omega) (h2.now f)
/-- a journal and its file: all records that may be there, and those that are -/
structure LInv (st : DS) (f : Int) (j : Option JS) (A S : List ByteArray) (n : Nat) : Prop where
  fin : FInv st f A S
  small : ∀ t ∈ A, t.size ≤ 200
  len : A.length ≤ n ∧ S.length ≤ n
  js : ∀ js, j = some js → js.f = f ∧ (∀ t ∈ js.rs, t.size ≤ 200) ∧ js.rs.length ≤ n ∧ (js.bad = false → js.rs = A ∧ ∃ D, Cl st f js.rs D ∧ S <+: D)
theorem LInv.mono {st : DS} {f : Int} {j : Option JS} {A S : List ByteArray} {n : Nat} (h : LInv st f j A S n) : LInv st f j A S (n + 1) :=
  ⟨h.fin, h.small, by have := h.len; omega, fun js hj => by obtain ⟨a, b, c, d⟩ := h.js js hj; exact ⟨a, b, by omega, d⟩⟩
theorem LInv.off {st : DS} {f : Int} {j : Option JS} {A S : List ByteArray} {n : Nat} (h : LInv st f j A S n) : LInv st f none A S n := ⟨h.fin, h.small, h.len, fun js hj => by cases hj⟩
theorem LInv.jok {st : DS} {f : Int} {js : JS} {A S : List ByteArray} {n : Nat} (h : LInv st f (some js) A S n) (hf : 0 ≤ f ∧ f ≤ 15) (hn : n ≤ 100) : js.Ok := by
  obtain ⟨h1, h2, h3, _⟩ := h.js js rfl
  have := forms_bd js.rs h2
  exact ⟨by rw [h1]; exact hf, fun t ht => by have := h2 t ht; omega, by omega⟩
theorem small_snoc {A : List ByteArray} {s : ByteArray} (h : ∀ t ∈ A, t.size ≤ 200) (hs : s.size ≤ 200) : ∀ t ∈ A ++ [s], t.size ≤ 200 := fun t ht => by
  rcases List.mem_append.1 ht with ht | ht
  · exact h t ht
  · simp at ht
    subst ht
    exact hs
/-- Append -/
theorem LInv.app {st : DS} {f : Int} {js : JS} {A S : List ByteArray} {n : Nat} (h : LInv st f (some js) A S n) (hok : st.Ok) {s : ByteArray} (hs : s.size ≤ 200) :
    ∃ e ju su A', appJ js st s = (e, ju, su) ∧ LInv su f (some ju) A' S (n + 1) ∧ ((e = 0 ∧ ju.rs = js.rs ++ [s] ∧ A' = A ++ [s]) ∨ (e = 8 ∧ ju.rs = js.rs ∧ A' = A ++ [s]) ∨ (e ≠ 0 ∧ e ≠ 8 ∧ e ≠ 9 ∧ ju.rs = js.rs ∧ A' = A)) := by
  obtain ⟨h1, h2, h3, h4⟩ := h.js js rfl
  obtain ⟨hA, hS⟩ := h.len
  cases hb : js.bad
  · obtain ⟨h5, D, h6, h7⟩ := h4 hb
    subst h1
    have hl := app_law hb hok h6 h5 h7 h.small hs
    obtain ⟨e, ju, su, hE⟩ : ∃ e ju su, appJ js st s = (e, ju, su) := ⟨_, _, _, rfl⟩
    rw [hE] at hl
    dsimp only at hl
    rcases hl with ⟨rfl, rfl, k3, _⟩ | ⟨rfl, rfl, k3⟩ | ⟨k1, k2, k3, ⟨rfl, rfl⟩ | ⟨rfl, k4⟩⟩
    · refine ⟨0, _, su, A ++ [s], hE, ⟨.inl ⟨_, D, k3, by rw [h5]; exact List.prefix_refl _, h7⟩, small_snoc h.small hs, by simp; omega, fun ju hj => ?_⟩, .inl ⟨rfl, rfl, rfl⟩⟩
      cases hj
      exact ⟨rfl, small_snoc h2 hs, by simp; omega, fun _ => ⟨by rw [h5], D, k3, h7⟩⟩
    · refine ⟨8, _, su, A ++ [s], hE, ⟨k3, small_snoc h.small hs, by simp; omega, fun ju hj => ?_⟩, .inr (.inl ⟨rfl, rfl, rfl⟩)⟩
      cases hj
      exact ⟨rfl, h2, by show js.rs.length ≤ _; omega, fun hc => by cases hc⟩
    · exact ⟨e, _, _, A, hE, h.mono, .inr (.inr ⟨k1, k2, k3, rfl, rfl⟩)⟩
    · refine ⟨e, _, su, A, hE, ⟨k4, h.small, by omega, fun ju hj => ?_⟩, .inr (.inr ⟨k1, k2, k3, rfl, rfl⟩)⟩
      cases hj
      exact ⟨rfl, h2, by show js.rs.length ≤ _; omega, fun hc => by cases hc⟩
  · exact ⟨7, js, st, A, app_bad hb st s, h.mono, .inr (.inr ⟨by decide, by decide, by decide, rfl, rfl⟩)⟩
/-- Sync -/
theorem LInv.sync {st : DS} {f : Int} {js : JS} {A S : List ByteArray} {n : Nat} (h : LInv st f (some js) A S n) (hok : st.Ok) (hf : 0 ≤ f ∧ f ≤ 15) :
    ∃ e ju su S', syncJ js st = (e, ju, su) ∧ LInv su f (some ju) A S' n ∧ ju.rs = js.rs ∧ ((e = 0 ∧ S' = js.rs) ∨ (e ≠ 0 ∧ S' = S)) := by
  obtain ⟨h1, h2, h3, h4⟩ := h.js js rfl
  obtain ⟨hA, hS⟩ := h.len
  cases hb : js.bad
  · obtain ⟨h5, D, h6, h7⟩ := h4 hb
    subst h1
    have hl := jsync_law hb hok h6 h5 h7 h.small hf
    obtain ⟨e, ju, su, hE⟩ : ∃ e ju su, syncJ js st = (e, ju, su) := ⟨_, _, _, rfl⟩
    rw [hE] at hl
    dsimp only at hl
    rcases hl with ⟨rfl, k2, k3⟩ | ⟨k1, rfl, k3⟩
    · obtain rfl : ju = js := k2
      refine ⟨0, ju, su, ju.rs, hE, ⟨.inl ⟨_, _, k3, by rw [h5]; exact List.prefix_refl _, List.prefix_refl _⟩, h.small, by omega, fun ju hj => ?_⟩, rfl, .inl ⟨rfl, rfl⟩⟩
      cases hj
      exact ⟨rfl, h2, h3, fun _ => ⟨h5, _, k3, List.prefix_refl _⟩⟩
    · refine ⟨e, _, su, S, hE, ⟨k3, h.small, h.len, fun ju hj => ?_⟩, rfl, .inr ⟨k1, rfl⟩⟩
      cases hj
      exact ⟨rfl, h2, h3, fun hc => by cases hc⟩
  · exact ⟨7, js, st, S, sync_bad hb st, h, rfl, .inr ⟨by decide, rfl⟩⟩
/-- what does not turn the files -/
theorem LInv.of {st su : DS} {f : Int} {j : Option JS} {A S : List ByteArray} {n : Nat} (h : LInv st f j A S n) (hF : su.F = st.F) (hQ : su.Q = st.Q) : LInv su f j A S n :=
  ⟨h.fin.of (by rw [hF]) (fun p hp _ => by rw [hQ] at hp; exact hp), h.small, h.len, fun js hj => by
    obtain ⟨a, b, c, d⟩ := h.js js hj
    exact ⟨a, b, c, fun hb => by obtain ⟨e, D, hC, hS⟩ := d hb; exact ⟨e, D, hC.of (by rw [hF]), hS⟩⟩⟩
theorem LInv.crash {st : DS} {f : Int} {j : Option JS} {A S : List ByteArray} {n : Nat} (h : LInv st f j A S n) (hok : st.Ok) (keep : List Int) : LInv (crashS st keep) f none A S n :=
  ⟨h.fin.crash hok h.small keep, h.small, h.len, fun js hj => by cases hj⟩
theorem LInv.up {st : DS} {f : Int} {j : Option JS} {A S : List ByteArray} {n : Nat} (h : LInv st f j A S n) : LInv (upS st) f j A S n := h.of rfl rfl
theorem LInv.open_ {st : DS} {f : Int} {A S : List ByteArray} {n : Nat} (h : LInv st f none A S n) (hok : st.Ok) (hf : 0 ≤ f ∧ f ≤ 15) :
    (∃ js su, openJ st f = (0, some js, su) ∧ js.rs <+: A ∧ S <+: js.rs ∧ LInv su f (some js) js.rs js.rs n) ∨ ∃ e su, openJ st f = (e, none, su) ∧ (e = 8 ∨ e = 9) ∧ LInv su f none A S n ∧ (Up st → st.lost ≠ 0) := by
  obtain ⟨e, j, su, hE⟩ : ∃ e j su, openJ st f = (e, j, su) := ⟨_, _, _, rfl⟩
  have hl := open_law h.fin hok (hok.sync hf) h.small hf
  rw [hE] at hl
  rcases hl with ⟨js, k1, k2, k3, k4, k5, k6, k7, _⟩ | ⟨k1, k2, k3, k4⟩
  · left
    obtain rfl : e = 0 := k1
    obtain rfl : j = some js := k2
    have hsm : ∀ t ∈ js.rs, t.size ≤ 200 := fun t ht => h.small t (k6.subset ht)
    have hle : js.rs.length ≤ n := Nat.le_trans k6.length_le h.len.1
    refine ⟨js, su, hE, k6, k7, ⟨.inl ⟨_, _, k5, List.prefix_refl _, List.prefix_refl _⟩, hsm, ⟨hle, hle⟩, fun ju hj => ?_⟩⟩
    cases hj
    exact ⟨k3, hsm, hle, fun _ => ⟨rfl, _, k5, List.prefix_refl _⟩⟩
  · right
    obtain rfl : j = none := k2
    exact ⟨e, su, hE, k1, ⟨k3, h.small, h.len, fun ju hj => by cases hj⟩, fun hu => (k4 hu).1⟩
theorem lose_arm_up (st : DS) (keep : List Int) (h : st.armed = 0) : Up (upS (crashS st keep)) := by
  unfold crashS upS
  split
  · exact ⟨rfl, h⟩
  · exact ⟨rfl, rfl⟩
theorem DkOk.arm {lm ls : List ME} {st : DS} (h : DkOk lm ls st) {n : Int} {l : List Int} (hn : i64 n) (hl : l.length ≤ 50) : DkOk lm ls { st with armed := max n 0, keep := l } := ⟨h.f, h.s, ⟨h.ok.now, h.ok.last, h.ok.out, h.ok.nodup, h.ok.file, h.ok.num, h.ok.lost0, (by show 0 ≤ max n 0 ∧ max n 0 ≤ _; unfold i64 at hn; omega), (by show l.length ≤ _; omega)⟩⟩
end Go.Proofs.YtfgibalcdjlnhaaDoor
end
