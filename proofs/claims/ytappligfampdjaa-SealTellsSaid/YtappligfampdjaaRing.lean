/-
  Words for rings: pairs of a key and a text, the map that holds their marks. Conditions: none.
-/
import Derived.Test.YtappligfampdjaaGrow
import Derived.Test.YtappligfampdjaaLift
import Derived.Test.YtappligfampdjaaProg
import Derived.DeepKeys4
import Derived.WideKeyMaps2
import Derived.Handy
import Derived.OwnWalk
namespace Go.Proofs.Ytappligfampdjaa
open Go.RowKit Go.WideMaps

/-- A key and a text. -/
structure SE where
  a : Int
  s : ByteArray
  deriving DecidableEq
def SE.val (e : SE) : Value := .agg #[.int .i64 e.a, .string e.s]
def SE.cells (l : List SE) : List Value := l.flatMap fun x => [.int .i64 x.a, .string x.s]
theorem SE.length (l : List SE) : (SE.cells l).length = l.length * 2 := by
  induction l with
  | nil => rfl
  | cons x l ih => simp only [SE.cells, List.flatMap_cons, List.length_append, List.length_cons, List.length_nil] at ih ⊢; omega
theorem SE.get (l : List SE) (k : Nat) (hk : k < l.length) : (SE.cells l)[k * 2]? = some (.int .i64 l[k].a) ∧ (SE.cells l)[k * 2 + 1]? = some (.string l[k].s) := by
  induction l generalizing k with
  | nil => simp at hk
  | cons x l ih =>
    cases k with
    | zero => exact ⟨rfl, rfl⟩
    | succ k =>
      have := ih k (by simpa using hk)
      simp only [SE.cells, List.flatMap_cons] at this ⊢
      rw [show (k + 1) * 2 = k * 2 + 2 from by omega]
      simpa using this
/-- The slice (A, n) shows the pairs l. -/
def Seals (w : World) (B : Nat) (A : Option Addr) (l : List SE) : Prop := Shows w B 2 A l.length (SE.cells l)
theorem Seals.at_ {w : World} {B : Nat} {A : Option Addr} {l : List SE} (h : Seals w B A l) {k : Nat} (hk : k < l.length) :
    ∃ b o, A = some ⟨b, o, none⟩ ∧ b < B ∧ w.cell? ⟨b, o + k * 2, none⟩ = some (.int .i64 l[k].a) ∧ w.cell? ⟨b, o + k * 2 + 1, none⟩ = some (.string l[k].s) := by
  obtain ⟨b, o, e, hb, hc⟩ := h.2 (by omega)
  exact ⟨b, o, e, hb, hc _ _ (SE.get l k hk).1, hc _ _ (SE.get l k hk).2⟩
theorem seal_ext {w w' : World} {A : Option Addr} {l : List SE} (h : Seals w w.heap.size A l) (hb : Below w.heap.size w w') : Seals w' w'.heap.size A l := Shows.more (h.below hb) hb.size
theorem SE.oneCells (l : List SE) : ∀ u ∈ SE.cells l, u.oneCell' = true := by
  intro u hu
  obtain ⟨x, _, hx⟩ := List.mem_flatMap.1 hu
  simp at hx
  rcases hx with rfl | rfl <;> rfl
theorem SE.append (l r : List SE) : SE.cells (l ++ r) = SE.cells l ++ SE.cells r := by simp [SE.cells]
theorem SE.inj {e f : SE} (h : e.val = f.val) : e = f := by
  obtain ⟨a, s⟩ := e
  obtain ⟨b, t⟩ := f
  simp only [SE.val, Value.agg.injEq, Array.mk.injEq, List.cons.injEq, Value.int.injEq, Value.string.injEq, true_and, and_true] at h
  rw [h.1, h.2]

theorem info3 : (Try.prog.info? 3).map (fun i => (i.zero, i.size, i.bytes)) = some (some (.int .i64 0), 1, 8) := by kernel_rfl
/-- a pair that can be a map's key -/
def SE.ok (e : SE) : Prop := (-9223372036854775808 ≤ e.a ∧ e.a ≤ 9223372036854775807) ∧ e.s.size ≤ maxLen
theorem sealed_law : KeyLaw Try.prog 32 := deep_law_laid laidOut (m := 3) (by decide) (by decide +kernel) (by kernel_rfl) (by kernel_rfl)
theorem key_some {e : SE} (h : e.ok) : ∃ l, keyOf Try.prog 32 e.val = some l := by
  have hw : (Lit.int .i64 e.a).wf = true := by
    have := h.1
    simp [Lit.wf, IntKind.min, IntKind.max, IntKind.signed, IntKind.bits]
    omega
  obtain ⟨n, hn⟩ : ∃ n, Try.prog.types.size = n + 1 := ⟨Try.prog.types.size - 1, by decide +kernel⟩
  have hc : Try.prog.cellsOf 32 = 2 := by kernel_rfl
  have hci : Try.prog.cellsOf 3 = 1 := by kernel_rfl
  have hcs : Try.prog.cellsOf 9 = 1 := by kernel_rfl
  have hl : Try.prog.keyLits (Try.prog.types.size + 1) 32 e.val.cells.toList = some [.int .i64 e.a, .string e.s.data.toList] := by
    rw [hn]
    simp [Program.keyLits, Try.underlying32, hc, SE.val, Value.cells, hci, hcs, hw, h.2]
  have hk : Try.prog.keyType 32 = true := by kernel_rfl
  have hf : e.val.formed Try.prog 32 = true := by
    simp only [SE.val, Value.formed, Try.underlying32, hc]
    rfl
  refine ⟨.string (keyBytes [.int .i64 e.a, .string e.s.data.toList]), ?_⟩
  unfold keyOf
  rw [Try.underlying32]
  simp only [hk, hf, hl, Bool.and_self, if_true, Option.map_some]

/-- what the map holds: each pair, with its index -/
def ents (L : List SE) : List (Value × Value) := L.zipIdx.map fun p => (p.1.val, .int .i64 p.2)
theorem ents_get {L : List SE} {j : Nat} {x : Value × Value} (h : (ents L)[j]? = some x) : ∃ hj : j < L.length, x = (L[j].val, .int .i64 j) := by
  simp only [ents, List.getElem?_map, List.getElem?_zipIdx, Option.map_eq_some_iff] at h
  obtain ⟨y, ⟨z, hz, rfl⟩, rfl⟩ := h
  obtain ⟨hj, rfl⟩ := List.getElem?_eq_some_iff.1 hz
  exact ⟨hj, by simp⟩
theorem ents_snoc (L : List SE) (e : SE) : ents (L ++ [e]) = ents L ++ [(e.val, .int .i64 L.length)] := by
  simp [ents, List.zipIdx_append]
def MapAt (w : World) (b : Nat) (L : List SE) : Prop :=
  ∃ es clock, w.heap[b]? = some (.map es clock) ∧ es.toList.map (fun x => (x.key, x.val)) = ents L
theorem MapAt.drew {w : World} {b : Nat} {L : List SE} (h : MapAt w b L) : MapAt w.drew b L := h
/-- a pair's mark, or 0 -/
def markI (L : List SE) (e : SE) : Int := if e ∈ L then L.idxOf e else 0
theorem mem_ents {L : List SE} {es : Array MapEntry} (h : es.toList.map (fun x => (x.key, x.val)) = ents L) {j : Nat} {x : MapEntry} (hx : es.toList[j]? = some x) : ∃ hj : j < L.length, x.key = L[j].val ∧ x.val = .int .i64 j := by
  have : (ents L)[j]? = some (x.key, x.val) := by rw [← h, List.getElem?_map, hx]; rfl
  obtain ⟨hj, he⟩ := ents_get this
  simp only [Prod.mk.injEq] at he
  exact ⟨hj, he.1, he.2⟩
theorem MapAt.lookup {w : World} {b : Nat} {L : List SE} {e : SE} (h : MapAt w b L) (hL : ∀ x ∈ L, x.ok) (hn : L.Nodup) (he : e.ok) :
    (Instr.lookup 46 (.map (some b)) e.val true).run Try.prog w = .ok (.tuple #[.int .i64 (markI L e), .bool (decide (e ∈ L))]) w := by
  obtain ⟨es, clock, hb, hes⟩ := h
  obtain ⟨l, hkey⟩ := key_some he
  have hkeys : ∀ x ∈ es.toList, ∃ l, keyOf Try.prog 32 x.key = some l := fun x hx => by
    obtain ⟨j, hj⟩ := List.mem_iff_getElem?.1 hx
    obtain ⟨hjl, hk, _⟩ := mem_ents hes hj
    rw [hk]
    exact key_some (hL _ (List.getElem_mem _))
  have hz : (zeroValue 3).run Try.prog w = .ok (.int .i64 0) w := by
    obtain ⟨i0, hi, hz0, _⟩ := info_parts info3
    simp [zeroValue, typeInfo, hi, hz0]
  rcases sealed_law.find w hkey es.toList hkeys with ⟨h1, h2⟩ | ⟨j, e0, h1, h2, h3⟩
  · have hm : e ∉ L := fun hm => by
      obtain ⟨j, hj, rfl⟩ := List.getElem_of_mem hm
      have hlen : es.toList.length = L.length := by
        have := congrArg List.length hes
        simpa [ents] using this
      obtain ⟨x, hx⟩ : ∃ x, es.toList[j]? = some x := ⟨_, List.getElem?_eq_getElem (by omega)⟩
      obtain ⟨_, hk, _⟩ := mem_ents hes hx
      exact h2 x (List.mem_of_getElem? hx) hk
    simp [Instr.lookup, run_underlying Try.underlying46, MapKept.run_getObj_map hb, sealed_law.check w _ hkey, h1, hz, Result.andThen, markI, hm]
  · obtain ⟨hjl, hk, hv⟩ := mem_ents hes h2
    have hLe : L[j] = e := SE.inj (hk.symm.trans h3)
    have hm : e ∈ L := hLe ▸ List.getElem_mem _
    have hi : L.idxOf e = j := by rw [← hLe]; exact hn.idxOf_getElem j hjl
    simp [Instr.lookup, run_underlying Try.underlying46, MapKept.run_getObj_map hb, sealed_law.check w _ hkey, h1, hv, Result.andThen, markI, hm, hi]
theorem MapAt.update {w : World} {b : Nat} {L : List SE} {e : SE} (h : MapAt w b L) (hL : ∀ x ∈ L, x.ok) (he : e.ok) (hm : e ∉ L) :
    ∃ w', (Instr.mapUpdate 46 (.map (some b)) e.val (.int .i64 L.length)).run Try.prog w = .ok () w' ∧ MapAt w' b (L ++ [e]) ∧ w.grownBy w' (some b) := by
  obtain ⟨es, clock, hb, hes⟩ := h
  obtain ⟨l, hkey⟩ := key_some he
  have hkeys : ∀ x ∈ es.toList, ∃ l, keyOf Try.prog 32 x.key = some l := fun x hx => by
    obtain ⟨j, hj⟩ := List.mem_iff_getElem?.1 hx
    obtain ⟨hjl, hk, _⟩ := mem_ents hes hj
    rw [hk]
    exact key_some (hL _ (List.getElem_mem _))
  rcases sealed_law.find w hkey es.toList hkeys with ⟨h1, h2⟩ | ⟨j, e0, h1, h2, h3⟩
  · refine ⟨ChangeMaps.setBlock w b (.map (es.push ⟨e.val, .int .i64 L.length, clock⟩) (clock + 1)), ?_, ⟨_, _, ChangeMaps.heap_setBlock_same hb _, ?_⟩, ⟨rfl, rfl, rfl, by simp [ChangeMaps.setBlock], fun k _ hk => ChangeMaps.heap_setBlock_other hb _ (fun e => hk (by rw [e]))⟩⟩
    · simp [Instr.mapUpdate, run_underlying Try.underlying46, MapKept.run_getObj_map hb, sealed_law.check w false hkey, h1, MapKept.run_setObj_map _ hb, Result.andThen, ChangeMaps.setBlock]
    · rw [Array.toList_push, List.map_append, hes, ents_snoc]
      rfl
  · obtain ⟨hjl, hk, _⟩ := mem_ents hes h2
    exact absurd (SE.inj (hk.symm.trans h3) ▸ List.getElem_mem _) hm

/-- A ring: its box g, its map b, its row v; what it has signed. -/
structure RingAt (w : World) (base g b : Nat) (v : Value) (L : List SE) : Prop where
  box : w.heap[g]? = some (.cells #[v, .map (some b)] 48 (0, 0))
  map : MapAt w b L
  row : w.ownsRow base 32 2 v L.length (SE.cells L)
  nodup : L.Nodup
  ok : ∀ x ∈ L, x.ok
  hg : base ≤ g
  hb : base ≤ b
section
variable {w w' : World} {base g b : Nat} {v : Value} {L : List SE}
theorem RingAt.lt (h : RingAt w base g b v L) : g < w.heap.size := (Array.getElem?_eq_some_iff.1 h.box).1
theorem RingAt.ltb (h : RingAt w base g b v L) : b < w.heap.size := by
  obtain ⟨es, clock, hb, _⟩ := h.map
  exact (Array.getElem?_eq_some_iff.1 hb).1
theorem RingAt.gb (h : RingAt w base g b v L) : g ≠ b := by
  rintro rfl
  obtain ⟨es, clock, hb, _⟩ := h.map
  rw [h.box] at hb
  simp at hb
theorem RingAt.rowb (h : RingAt w base g b v L) : v.ownBlock ≠ some b := by
  intro hv
  obtain ⟨es, clock, hb, _⟩ := h.map
  rcases h.row.2 with ⟨rfl, _⟩ | ⟨k, cap, cur, rfl, _, hk, _⟩
  · simp [Value.ownBlock] at hv
  · simp only [Value.ownBlock, Option.some.injEq] at hv
    subst hv
    rw [hk] at hb
    simp at hb
theorem RingAt.rowg (h : RingAt w base g b v L) : v.ownBlock ≠ some g := by
  intro hv
  rcases h.row.2 with ⟨rfl, _⟩ | ⟨k, cap, cur, rfl, _, hk, _⟩
  · simp [Value.ownBlock] at hv
  · simp only [Value.ownBlock, Option.some.injEq] at hv
    subst hv
    have := h.box
    rw [hk] at this
    simp only [Option.some.injEq, Obj.cells.injEq] at this
    exact absurd this.2.1 (by decide)
theorem RingAt.cell0 (h : RingAt w base g b v L) : w.cell? ⟨g, 0, none⟩ = some v := by
  rw [cell_of_row w g _ _ _ (0, 0) h.box]; rfl
theorem RingAt.cell1 (h : RingAt w base g b v L) : w.cell? ⟨g, 1, none⟩ = some (.map (some b)) := by
  rw [cell_of_row w g _ _ _ (0, 0) h.box]; rfl
theorem RingAt.frozen (h : RingAt w base g b v L) (j : Nat) : w.frozen? ⟨g, j, none⟩ = false := frozen_of_row w g j _ _ h.box
/-- what turns nothing of the ring leaves it -/
theorem RingAt.keep (h : RingAt w base g b v L) (hk : ∀ k, k < w.heap.size → (k = g ∨ k = b ∨ v.ownBlock = some k) → w'.heap[k]? = w.heap[k]?) : RingAt w' base g b v L := by
  refine ⟨(hk g h.lt (.inl rfl)).trans h.box, ?_, ?_, h.nodup, h.ok, h.hg, h.hb⟩
  · obtain ⟨es, clock, hb, he⟩ := h.map
    exact ⟨es, clock, (hk b h.ltb (.inr (.inl rfl))).trans hb, he⟩
  · refine ⟨h.row.1, ?_⟩
    rcases h.row.2 with h0 | ⟨k, cap, cur, rfl, k1, k2, k3⟩
    · exact .inl h0
    · exact .inr ⟨k, cap, cur, rfl, k1, (hk k (Array.getElem?_eq_some_iff.1 k2).1 (.inr (.inr rfl))).trans k2, k3⟩
theorem RingAt.ext (h : RingAt w base g b v L) (hx : Below w.heap.size w w') : RingAt w' base g b v L := h.keep fun k hk _ => hx.block k hk
end
/-- Only the ring has turned, and memory is new. -/
structure Moved (base : Nat) (w w' : World) (g b : Nat) (v v' : Value) : Prop where
  below : Below base w w'
  other : ∀ k, k < w.heap.size → k ≠ g → k ≠ b → v.ownBlock ≠ some k → w'.heap[k]? = w.heap[k]?
  off : Off v w v'
theorem Moved.of_below {base : Nat} {w w' : World} {g b : Nat} {v : Value} (hb : base ≤ w.heap.size) (h : Below w.heap.size w w') : Moved base w w' g b v v := ⟨h.mono hb, fun k hk _ _ _ => h.block k hk, fun _ _ h => h⟩
theorem Moved.trans {base : Nat} {w w' w'' : World} {g b : Nat} {v v' v'' : Value} (h : Moved base w w' g b v v') (h' : Moved base w' w'' g b v' v'') : Moved base w w'' g b v v'' :=
  ⟨h.below.trans h'.below, fun k hk h1 h2 h3 => (h'.other k (Nat.lt_of_lt_of_le hk h.below.size) h1 h2 (h.off k hk h3)).trans (h.other k hk h1 h2 h3), fun k hk h3 => h'.off k (Nat.lt_of_lt_of_le hk h.below.size) (h.off k hk h3)⟩
/-- a row of somebody else's stays -/
theorem Moved.own {base base' s n : Nat} {e : TypeId} {w w' : World} {g b : Nat} {v v' r : Value} {xs : List Value} (h : Moved base w w' g b v v') (hr : w.ownsRow base' e s r n xs) (h1 : r.ownBlock ≠ some g) (h2 : r.ownBlock ≠ some b) (h3 : Apart v r) : w'.ownsRow base' e s r n xs := by
  refine ⟨hr.1, ?_⟩
  rcases hr.2 with h0 | ⟨k, cap, cur, rfl, k1, k2, k3⟩
  · exact .inl h0
  · refine .inr ⟨k, cap, cur, rfl, k1, ?_, k3⟩
    rw [h.other k (Array.getElem?_eq_some_iff.1 k2).1 (fun e => h1 (by rw [← e]; rfl)) (fun e => h2 (by rw [← e]; rfl)) (fun e => h3 k e rfl)]
    exact k2

def keyB (n : Int) : Bool := decide (0 ≤ n) && decide (n < 5000)
/-- the ring behind Sign -/
def addL (L : List SE) (e : SE) : List SE := if keyB e.a && !decide (e ∈ L) then L ++ [e] else L
/-- what Sign returns -/
def signV (L : List SE) (e : SE) : Value := if keyB e.a then .agg #[.int .i64 e.a, .string e.s, .int .i64 ((addL L e).idxOf e)] else .agg #[.int .i64 0, .string ⟨#[]⟩, .int .i64 0]
theorem addL_nodup {L : List SE} {e : SE} (h : L.Nodup) : (addL L e).Nodup := by
  unfold addL
  split
  · rename_i hc
    simp at hc
    exact List.nodup_append.2 ⟨h, by simp, by intro a ha b hb; simp at hb; subst hb; exact fun e => hc.2 (e ▸ ha)⟩
  · exact h
end Go.Proofs.Ytappligfampdjaa
