/-
  The walk of Copy. Conditions: none.
-/
import Derived.Test.YtappligfampdjaaWalkG
import Derived.Shelf.SlMaps.Clone
namespace Go.Proofs.Ytappligfampdjaa
open Go.RowKit Go.WideMaps Go.Shelf

shelf_lay_g SlLaysW.n5 Slmc 5 at Try 24 as Try.cloneM
theorem clonem_any (b : Nat) (L : List SE) (w : World) (h : MapAt w b L) :
    Calls Try.prog 24 #[.map (some b)] w fun e w' => e = .returned (.map (some w.heap.size)) ∧ MapAt w' w.heap.size L ∧ Below w.heap.size w w' := by
  obtain ⟨es, clock, hb, hes⟩ := h
  have hcon := AnyW.maps_Clone Try.cloneM b es clock w hb
  change Calls Try.prog 24 _ _ _ at hcon
  refine hcon.mono ?_
  rintro e w' ⟨rfl, rfl⟩
  exact ⟨rfl, ⟨es, clock, heap_alloc_new _ _, hes⟩, lit_below _ _⟩
theorem MapAt.ext {w w' : World} {b : Nat} {L : List SE} (h : MapAt w b L) (hx : Below w.heap.size w w') : MapAt w' b L := by
  obtain ⟨es, clock, hb, hes⟩ := h
  exact ⟨es, clock, (hx.block b (Array.getElem?_eq_some_iff.1 hb).1).trans hb, hes⟩
theorem MapAt.lt {w : World} {b : Nat} {L : List SE} (h : MapAt w b L) : b < w.heap.size := by
  obtain ⟨es, clock, hb, hes⟩ := h
  exact (Array.getElem?_eq_some_iff.1 hb).1
set_option maxHeartbeats 2000000 in
set_option maxRecDepth 100000 in
theorem copy_any (w : World) (base g b : Nat) (v : Value) (L : List SE) (h : RingAt w base g b v L) (hl : L.length ≤ 1000000) :
    Calls Try.prog 20 #[.pointer (some ⟨g, 0, none⟩)] w fun r w' => ∃ g' b' v', r = .returned (.pointer (some ⟨g', 0, none⟩)) ∧ RingAt w' w.heap.size g' b' v' L ∧ Below w.heap.size w w' := by
  obtain ⟨A, c, rfl, hs, _, _⟩ := caps_of_own h.row
  have g0 := h.cell0
  have g1 := h.cell1
  have r1 := h.lt
  have hx0 := Below.refl w.heap.size w
  go_enter Try.func20, Try.ntmps20
  go_wp2_with fail
  refine wp_region_mix [(0, true), (1, true), (2, true), (3, true), (5, true), (6, true), (7, true), (8, true), (4, false), (9, false), (10, true), (11, false)] [12] (SB w.heap.size w w.heap.size none _) (by kernel_rfl) (by kernel_rfl) (by kernel_rfl) (by kernel_rfl) (by decide) (SB.start hx0 (by omega)) (fun hS => ?_)
  simp only [planned, List.filterMap_cons, List.filterMap_nil, List.getElem?_cons_zero, List.getElem?_cons_succ, Option.map_some]
  repeat (first
    | (refine mix_skip (by rfl) ?_; try simp only [Act.put, List.setIfInBounds_toArray, List.set_cons_zero, List.set_cons_succ])
    | (refine mix_pass hS (by rfl) ?_; try simp only [Act.put, List.setIfInBounds_toArray, List.set_cons_zero, List.set_cons_succ])
    | (refine mix_pure (by rfl) (by rfl) (fun K hK => ?_); go_big_quiet_op; refine hK _ ?_; clear hK K)
    | (refine mix_take (by rfl) ?_
       apply Exists.intro
       refine ⟨?_, ?_⟩
       · intro w' hSw
         have hSc := hSw.cell
         clear hSw
         go_simp
         try with_reducible rfl
       try simp only [Act.put, List.setIfInBounds_toArray, List.set_cons_zero, List.set_cons_succ])
    | (refine mix_move (by rfl) (fun K hK => ?_)
       first
         | (go_simp; go_at_call 22; refine (clone_any A L.length c L rfl _ (seal_ext hs hS.below) hl).mono ?_; rintro e w2 ⟨v2, rfl, own2, hx⟩; have hxA := hx; obtain ⟨A2, c2, rfl, _, _, _⟩ := caps_of_own own2)
         | (go_simp; go_at_call 24; refine (clonem_any b L _ (h.map.ext hS.below)).mono ?_; rintro e w3 ⟨rfl, hm3, hx⟩; have hxB := hx)
         | go_simp
       try dsimp only
       first
         | refine hK.out _ _ (hS.step hx (by omega)) ?_
         | refine hK.out _ _ hS ?_
         | refine hK.out _ _ (hS.alloc _ (by omega)) ?_
         | refine hK.out _ _ (hS.grown hg hx) ?_
       clear hK K hS
       intro hS
       try simp only [Act.put, List.setIfInBounds_toArray, List.set_cons_zero, List.set_cons_succ])
    | fail)
  refine mix_nil ?_
  simp only [tailed, List.filterMap_cons, List.filterMap_nil, List.getElem?_cons_zero, List.getElem?_cons_succ]
  have hb9 := hS.below
  have hA : Below w.heap.size w w2 := (Below.refl w.heap.size w).drew.trans hxA
  have hsz := hA.size
  have own3 := own_below own2 hxB
  have own4 := own3.alloc (.cells #[.slice A2 L.length c2, .map (some w2.heap.size)] 48)
  have hm4 := hm3.ext (lit_below w3 (.cells #[.slice A2 L.length c2, .map (some w2.heap.size)] 48))
  have ob4 := heap_alloc_new w3 (.cells #[.slice A2 L.length c2, .map (some w2.heap.size)] 48)
  have hs3 := hxB.size
  clear hS g0 g1
  go_wp2_with fail
  refine NoPanic.normal ?_
  go_wp2_with fail
  go_ret
  exact ⟨_, _, _, rfl, ⟨ob4, hm4, own4, h.nodup, h.ok, by omega, by omega⟩, hb9⟩
end Go.Proofs.Ytappligfampdjaa
