/-
  The walks of Open, the reference's and the program's. Conditions: none but the slices' sizes.
-/
import Derived.Test.YtappligfampdjaaWalkE
import Derived.Test.YtappligfampdjaaLaw0
namespace Go.Proofs.Ytappligfampdjaa
open Go.RowKit Go.WideMaps

def nilV : Value := .pointer none
/-- What Open returns. -/
def Opened (w w' : World) (r : Value) (l : List SE) : Prop :=
  Below w.heap.size w w' ∧ ((openE l ≠ 0 ∧ r = .pointer none) ∨ (openE l = 0 ∧ ∃ g b v, r = .pointer (some ⟨g, 0, none⟩) ∧ RingAt w' w.heap.size g b v l))
def OpenedR (w w' : World) (r : Value) (l : List SE) : Prop :=
  Below w.heap.size w w' ∧ ((openE l ≠ 0 ∧ r = .pointer none) ∨ (openE l = 0 ∧ ∃ g v, r = .pointer (some ⟨g, 0, none⟩) ∧ RefAt w' w.heap.size g v l))
set_option maxHeartbeats 2000000 in
set_option maxRecDepth 100000 in
theorem open_any (A : Option Addr) (n c : Nat) (l : List SE) (hn : l.length = n) (w : World) (h : Seals w w.heap.size A l) (hl : n ≤ 1000000) (hok : ∀ x ∈ l, x.ok) :
    Calls Try.prog 17 #[.slice A n c] w fun r w' => ∃ p, r = .returned (.tuple #[p, .int .i64 (openE l)]) ∧ Opened w w' p l := by
  subst hn
  go_enter Try.func17, Try.ntmps17
  go_wp2_with fail
  refine (new_any _).mono ?_
  rintro e1 w1 ⟨g, b, rfl, hr1, hx1⟩
  go_wp2_with fail
  go_loopw [10] (fun i wr => ∃ (k : Nat) (v : Value), k ≤ l.length ∧ i = .int .i64 k ∧ okKeys (l.take k) = true ∧ RingAt wr w.heap.size g b v (ringL (l.take k)) ∧ Below w.heap.size w wr) (fun i _ => l.length - (intOf i).toNat)
  case atStart => exact ⟨0, _, Nat.zero_le _, rfl, rfl, by simpa [ringL] using hr1, hx1⟩
  case round =>
    obtain ⟨k, v, hk, rfl, hok2, hr, hbw⟩ := hrel
    have HO := Lib.hid hok2
    clear hok2
    by_cases hlt : k < l.length
    · obtain ⟨b1, o1, hA, hb, p0, p1⟩ := (show Seals wr w.heap.size A l from Shows.below h hbw).at_ hlt
      subst hA
      have hsz := hbw.size
      have he := hok _ (List.getElem_mem hlt)
      generalize hel : l[k] = e at p0 p1 he
      have HE := Lib.hid hel
      clear hel
      have obA := heap_alloc_new wr (.cells #[.int .i64 e.a, .string e.s] 32)
      have hxA := lit_below wr (.cells #[.int .i64 e.a, .string e.s] 32)
      go_wp2_with fail
      refine (key_any _ _).mono ?_
      rintro e2 w2 ⟨rfl, hx2⟩
      have ob2 := (hx2.block wr.heap.size (by simp)).trans obA
      have hx2 := hxA.trans (hx2.mono (by simp))
      clear obA hxA
      have hr2 := hr.ext hx2
      have hb2 := hbw.trans (hx2.mono hsz)
      have c0 : w2.cell? ⟨wr.heap.size, 0, none⟩ = some (.int .i64 e.a) := by rw [cell_of_row w2 _ _ _ _ (0, 0) ob2]; rfl
      have c1 : w2.cell? ⟨wr.heap.size, 1, none⟩ = some (.string e.s) := by rw [cell_of_row w2 _ _ _ _ (0, 0) ob2]; rfl
      cases hkb : keyB e.a
      · have HB := Lib.hid hkb
        clear hkb
        go_wp2_with fail
        go_ret2
        have hE : openE l = 1 := by simp [openE, okKeys_take hlt (by rw [HE.out]; exact HB.out)]
        exact ⟨_, by rw [hE]; rfl, hb2, .inl ⟨by rw [hE]; decide, rfl⟩⟩
      · have HB := Lib.hid hkb
        clear hkb
        go_wp2_with fail
        refine (sign_any w2 w.heap.size g b v (ringL (l.take k)) e hr2 he (Nat.le_trans (ringL_length _) (by rw [List.length_take]; omega))).mono ?_
        rintro e3 w3 ⟨v3, rfl, hr3, hm3⟩
        have hb3 := hb2.trans hm3.below
        rw [← ringL_snoc, ← HE.out, ← take_succ_eq hlt] at hr3
        go_wp2_with fail
        go_roundw
        case rel =>
          refine ⟨k + 1, _, by omega, by go_num, ?_, hr3, hb3⟩
          rw [take_succ_eq hlt, okKeys_snoc, HO.out, HE.out, HB.out]
          rfl
        case measure => simp [intOf]; omega
    · obtain rfl : k = l.length := by omega
      rw [List.take_length] at hr HO
      have g0 := hr.cell0
      have r1 := hr.lt
      obtain ⟨A4, c4, rfl, _, _, _⟩ := caps_of_own hr.row
      have hlen := ringL_length l
      by_cases hn : l.Nodup
      · have hid := ringL_id HO.out hn
        have hE : openE l = 0 := by simp [openE, HO.out, hn]
        rw [hid] at hr g0
        have HE := Lib.hid hE
        clear hE hn hid hlen
        go_wp2_with fail
        go_ret2
        exact ⟨_, by rw [HE.out]; rfl, hbw, .inr ⟨HE.out, _, _, _, rfl, hr⟩⟩
      · have hlt := ringL_lt hn
        have hE : openE l = 5 := by simp [openE, HO.out, hn]
        have HE := Lib.hid hE
        have hlt2 : ((ringL l).length : Int) < l.length := by omega
        clear hE hn hlen
        go_wp2_with fail
        go_ret2
        exact ⟨_, by rw [HE.out]; rfl, hbw, .inl ⟨by rw [HE.out]; decide, rfl⟩⟩
end Go.Proofs.Ytappligfampdjaa
