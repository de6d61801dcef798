/-
  Conditions: none.
-/
import Derived.WalkKit
import Derived.Outline
import Derived.Deep.QuietTactic
import Derived.BigQuiet
import Derived.Lib.Hide
import Derived.Test.YtaodngiigdbgeaaGreatDoorProg
import Derived.KernelRfl
set_option maxHeartbeats 16000000
set_option maxRecDepth 20000
set_option linter.unusedSimpArgs false
set_option linter.unusedVariables false
section
namespace Go.Proofs
theorem zj {P : Prop} (h : P := by first | exact cM | exact bL rfl rfl (by assumption) | exact bL rfl rfl (by with_reducible rfl)) : P := h
theorem zq {P : Prop} (h : P := by first | with_reducible rfl | exact lit0 | exact lit1 | exact lit2 | exact lit3 | exact lit4 | exact aVk _ | exact aVj _ _ | exact aIp _ (by omega)) : P := h
theorem zx {P : Prop} (h : P := by first | exact ToD.d _ | exact ToD.row _ _ _ _ _ rfl) : P := h
theorem zk {P : Prop} (h : P := by first | (simp only [aIw, sH, vS]; rfl) | rfl) : P := h
theorem zw {P : Prop} (h : P := by (repeat (first | exact cU | (apply bY; focus (first | rfl | (simp [find]; done)))))) : P := h
theorem zy {P : Prop} (h : P := by first | (simp only [aIw, sH, vS, Tok.cells]; rfl) | rfl) : P := h
theorem zb {P : Prop} (h : P := by omega) : P := h
theorem zg {P : Prop} (h : P := by decide) : P := h
theorem zf {P : Prop} (h : P := by first | (simp only [List.length_map, List.length_append, List.length_cons, List.length_nil]; omega) | omega) : P := h
theorem zp {P : Prop} (h : P := by kernel_rfl) : P := h
theorem zd {P : Prop} (h : P := by repeat (first | exact PartsD.nil | (apply PartsD.cons; first | exact ToD.d _ | exact ToD.row _ _ _ _ _ rfl))) : P := h
theorem zm {P : Prop} (h : P := by (repeat (first | exact kO | (apply iV; focus (first | rfl | exact yZ (by first | omega) | (simp [look]; done)))))) : P := h
theorem zh {P : Prop} (h : P := by repeat (first | exact PartsV.nil _ | (apply PartsV.cons; constructor; rfl))) : P := h
theorem zc {P : Prop} (h : P := by unfold laidG; first | exact List.Mem.head _ | exact .tail _ (.head _) | exact .tail _ (.tail _ (.head _))) : P := h
theorem zn {P : Prop} (h : P := by first | exact ToD.d _ | exact ToD.row _ _ _ _ _ rfl | exact ToD.nil _) : P := h
theorem zl {P : Prop} (h : P := by simp [V.one, Value.oneCell', Tok.cells]) : P := h
theorem zt {P : Prop} (h : P := by repeat (first | exact PtrsV.nil _ | (apply PtrsV.cons; exact rfl))) : P := h
theorem zo {P : Prop} (h : P := by simp [V.one, Value.oneCell']) : P := h
theorem zi {P : Prop} (h : P := by first | (simp only [dfill, aIw, sH, vS, Tok.cells]; rfl) | (simp [dfill, putD, cellsD, zerosD, Value.cells, Tok.cells]; rfl)) : P := h
theorem ze {P : Prop} (h : P := by simp [dfill, putD, cellsD, zerosD, Value.cells]; rfl) : P := h
theorem za {P : Prop} (h : P := by simp only [kindsD] <;> rfl) : P := h
theorem jj {P : Prop} (h : P := by first | (simp only [List.length_map, List.length_append, List.length_cons, List.length_nil]; rfl) | rfl) : P := h
theorem jq {P : Prop} (h : P := by first | rfl | (simp [find, O.ren, V.ren, V.renL, rn, iD, aG, aL, aH]; done)) : P := h
theorem jx {P : Prop} (h : P := by simp only [List.length_map, List.length_nil, List.nil_append]; omega) : P := h
theorem jz {P : Prop} (h : P := by first | (simp only [dfill, aIw, sH, vS]; rfl) | (simp [dfill, putD, cellsD, zerosD, Value.cells]; rfl)) : P := h
theorem jk {P : Prop} (h : P := by simp only [List.length_map]; omega) : P := h
theorem jw {P : Prop} (h : P := by assumption) : P := h
theorem jy {P : Prop} (h : P := by with_reducible rfl) : P := h
theorem jv {P : Prop} (h : P := by simp; omega) : P := h
theorem jb {P : Prop} (h : P := by first | with_reducible rfl | decide) : P := h
theorem jg {P : Prop} (h : P := by simp only [List.length_map]; rfl) : P := h
theorem jf {P : Prop} (h : P := by constructor) : P := h
theorem jp {P : Prop} (h : P := by simp [dfill, putD, cellsD, zerosD, Value.cells, Tok.cells]; rfl) : P := h
theorem jd {P : Prop} (h : P := by simp only [Nat.zero_add, Nat.mul_one] <;> rfl) : P := h
theorem jm {P : Prop} (h : P := by simp [D.one, Value.oneCell', Tok.cells]) : P := h
theorem jh {P : Prop} (h : P := by unfold laidG; first | exact List.Mem.head _ | exact .tail _ (.head _) | exact .tail _ (.tail _ (.head _)) | exact .tail _ (.tail _ (.tail _ (.head _)))) : P := h
theorem jc {P : Prop} (h : P := by first | omega | (simp only [Tok.cells]; omega)) : P := h
theorem jr {P : Prop} (h : P := by simp [dfill, zerosD]) : P := h
theorem jl {P : Prop} (h : P := by first | rfl | (simp [okOut, V.within, V.withinL, O.within, keys, mem, look, iD, pR, rG, pS]; done)) : P := h
theorem jt {P : Prop} (h : P := by simp [D.one, Value.oneCell']) : P := h
end Go.Proofs
end
section
namespace Go.Proofs.YtaodngiigdbgeaaGreatDoor
open Go.RowKit
def Shows (w : World) (B s : Nat) (A : Option Addr) (n : Nat) (xs : List Value) : Prop :=
 xs.length = n * s ∧ (0 < n → ∃ b o, A = some ⟨b, o, none⟩ ∧ b < B ∧ ∀ j u, xs[j]? = some u → w.cell? ⟨b, o + j, none⟩ = some u)
section
variable {w w' : World} {B B' s n : Nat} {A : Option Addr} {xs : List Value}
theorem Shows.empty (w : World) (B s : Nat) (A : Option Addr) : Shows w B s A 0 [] := ⟨by simp, fun h => absurd h zb⟩
theorem Shows.keep (h : Shows w B s A n xs) (hk : ∀ b o, b < B → w'.cell? ⟨b, o, none⟩ = w.cell? ⟨b, o, none⟩) : Shows w' B s A n xs :=
 ⟨h.1, fun hn => by
  obtain ⟨b, o, e, hb, hc⟩ := h.2 hn
  exact ⟨b, o, e, hb, fun j u hu => (hk _ _ hb).trans (hc j u hu)⟩⟩
theorem Shows.more (h : Shows w B s A n xs) (hB : B ≤ B') : Shows w B' s A n xs :=
 ⟨h.1, fun hn => by
  obtain ⟨b, o, e, hb, hc⟩ := h.2 hn
  exact ⟨b, o, e, by omega, hc⟩⟩
theorem Shows.below (h : Shows w B s A n xs) (hb : Below B w w') : Shows w' B s A n xs := h.keep fun _ _ hp => hb.cell (p := ⟨_, _, none⟩) hp
theorem Shows.alloc (h : Shows w B s A n xs) (hB : B ≤ w.heap.size) (o : Obj) : Shows (w.alloc o) B s A n xs := h.below ((Below.refl B w).alloc hB o)
theorem Shows.len (h : Shows w B s A n xs) : xs.length = n * s := h.1
end
theorem uI {B : Nat} {W w1 : World} (hb : Below B W w1) : (∀ b o, b < B → w1.cell? ⟨b, o, none⟩ = W.cell? ⟨b, o, none⟩) ∧ (∀ b o, b < B → w1.frozen? ⟨b, o, none⟩ = W.frozen? ⟨b, o, none⟩) :=
 ⟨fun b o h => hb.cell (p := ⟨b, o, none⟩) h, fun b o h => hb.frozen (p := ⟨b, o, none⟩) h⟩
structure P2 where
 a : Int
 b : Int
 deriving DecidableEq
def P2.cells (l : List P2) : List Value := l.flatMap fun x => [.int .i64 x.a, .int .i64 x.b]
theorem P2.length (l : List P2) : (P2.cells l).length = l.length * 2 := by
 induction l with
 | nil => rfl
 | cons x l ih => simp only [P2.cells, List.flatMap_cons, List.length_append, List.length_cons, List.length_nil] at ih ⊢; omega
theorem P2.get (l : List P2) (k : Nat) (hk : k < l.length) : (P2.cells l)[k * 2]? = some (.int .i64 l[k].a) ∧ (P2.cells l)[k * 2 + 1]? = some (.int .i64 l[k].b) := by
 induction l generalizing k with
 | nil => simp at hk
 | cons x l ih =>
  cases k with
  | zero => exact ⟨rfl, rfl⟩
  | succ k =>
   have := ih k (by simpa using hk)
   simp only [P2.cells, List.flatMap_cons] at this ⊢
   rw [show (k + 1) * 2 = k * 2 + 2 from by omega]
   simpa using this
def Two (w : World) (B : Nat) (A : Option Addr) (l : List P2) : Prop := Shows w B 2 A l.length (P2.cells l)
theorem Two.at_ {w : World} {B : Nat} {A : Option Addr} {l : List P2} (h : Two w B A l) {k : Nat} (hk : k < l.length) :
  ∃ b o, A = some ⟨b, o, none⟩ ∧ b < B ∧ w.cell? ⟨b, o + k * 2, none⟩ = some (.int .i64 l[k].a) ∧ w.cell? ⟨b, o + k * 2 + 1, none⟩ = some (.int .i64 l[k].b) := by
 obtain ⟨b, o, e, hb, hc⟩ := h.2 zb
 exact ⟨b, o, e, hb, hc _ _ (P2.get l k hk).1, hc _ _ (P2.get l k hk).2⟩
theorem Two.below {w w' : World} {B : Nat} {A : Option Addr} {l : List P2} (h : Two w B A l) (hb : Below B w w') : Two w' B A l := Shows.below h hb
def ints (l : List Int) : List Value := l.map (Value.int .i64)
theorem aOi (l : List Int) (k : Nat) (hk : k < l.length) : (ints l)[k]? = some (.int .i64 l[k]) := by simp [ints, hk]
def Nums (w : World) (B : Nat) (A : Option Addr) (l : List Int) : Prop := Shows w B 1 A l.length (ints l)
theorem Nums.at_ {w : World} {B : Nat} {A : Option Addr} {l : List Int} (h : Nums w B A l) {k : Nat} (hk : k < l.length) :
  ∃ b o, A = some ⟨b, o, none⟩ ∧ b < B ∧ w.cell? ⟨b, o + k, none⟩ = some (.int .i64 l[k]) := by
 obtain ⟨b, o, e, hb, hc⟩ := h.2 zb
 exact ⟨b, o, e, hb, hc _ _ (aOi l k hk)⟩
theorem Nums.below {w w' : World} {B : Nat} {A : Option Addr} {l : List Int} (h : Nums w B A l) (hb : Below B w w') : Nums w' B A l := Shows.below h hb
theorem Nums.more {w : World} {B B' : Nat} {A : Option Addr} {l : List Int} (h : Nums w B A l) (hB : B ≤ B') : Nums w B' A l := Shows.more h hB
theorem P2.append (l r : List P2) : P2.cells (l ++ r) = P2.cells l ++ P2.cells r := by simp [P2.cells]
end Go.Proofs.YtaodngiigdbgeaaGreatDoor
end
section
namespace Go.Proofs.YtaodngiigdbgeaaGreatDoor
open Go.RowKit
inductive TI where
 | no
 | one (z : Value)
 | st (z : List Value) (fs : List (Nat × Nat × Nat))
 | ar (n e es : Nat) (z : List Value)
 | sl (e es eb : Nat) (ez : Value)
def tiOf (P : Program) (t : TypeId) : TI :=
 match P.info? t, P.underlying t with
 | some i, some (.struct fs) =>
  match i.zero, fs.toList.mapM (fun f => (P.info? f.type).map fun j => (f.offset, j.size, f.type)) with
  | some (.agg z), some pl => if z.size = i.size then .st z.toList pl else .no
  | _, _ => .no
 | some i, some (.array n e) =>
  match i.zero, P.info? e with
  | some (.agg z), some j => if z.size = i.size then .ar n e j.size z.toList else .no
  | _, _ => .no
 | some i, some (.slice e) =>
  match P.info? e with
  | some j => match j.zero with
   | some ez => if i.size = 1 ∧ ez.cells.size = j.size then .sl e j.size j.bytes ez else .no
   | none => .no
  | none => .no
 | some i, some _ => match i.zero with
  | some z => if i.size = 1 ∧ z.oneCell' = true then .one z else .no
  | none => .no
 | _, _ => .no
end Go.Proofs.YtaodngiigdbgeaaGreatDoor
end
section
namespace Go.Proofs.YtaodngiigdbgeaaGreatDoor
def ti : Nat → TI
 | 1 => .one (.nilFunc)
 | 3 => .one (.int .i64 0)
 | 4 => .one (.bool Bool.false)
 | 5 => .one (.int .u8 0)
 | 9 => .one (.string ⟨#[]⟩)
 | 20 => .one (.nilIface)
 | 22 => .sl 46 4 64 (.agg #[.int .i64 0, .int .i64 0, .slice none 0 0, .slice none 0 0])
 | 23 => .sl 60 1 24 (.slice none 0 0)
 | 24 => .sl 94 9 72 (.agg #[.int .i64 0, .int .i64 0, .int .i64 0, .int .i64 0, .int .i64 0, .int .i64 0, .int .i64 0, .int .i64 0, .int .i64 0])
 | 25 => .sl 66 4 80 (.agg #[.int .i64 0, .slice none 0 0, .slice none 0 0, .slice none 0 0])
 | 26 => .sl 3 1 8 (.int .i64 0)
 | 27 => .sl 72 15 120 (.agg #[.int .i64 0, .int .i64 0, .int .i64 0, .int .i64 0, .int .i64 0, .int .i64 0, .int .i64 0, .int .i64 0, .int .i64 0, .int .i64 0, .int .i64 0, .int .i64 0, .int .i64 0, .int .i64 0, .int .i64 0])
 | 29 => .st [.int .i64 0, .int .i64 0, .int .i64 0, .int .i64 0, .int .i64 0, .int .i64 0] [(0, 1, 3), (1, 1, 3), (2, 1, 3), (3, 1, 3), (4, 1, 3), (5, 1, 3)]
 | 30 => .sl 48 2 24 (.agg #[.int .i64 0, .string ⟨#[]⟩])
 | 31 => .sl 75 4 56 (.agg #[.string ⟨#[]⟩, .int .i64 0, .slice none 0 0, .bool Bool.false])
 | 33 => .st [.int .i64 0, .slice none 0 0, .slice none 0 0, .slice none 0 0, .slice none 0 0, .slice none 0 0, .slice none 0 0, .slice none 0 0, .slice none 0 0, .int .i64 0, .int .i64 0, .int .i64 0, .int .i64 0, .int .i64 0, .int .i64 0, .slice none 0 0, .slice none 0 0, .slice none 0 0] [(0, 1, 3), (1, 1, 22), (2, 1, 23), (3, 1, 24), (4, 1, 25), (5, 1, 26), (6, 1, 26), (7, 1, 27), (8, 1, 26), (9, 6, 29), (15, 1, 26), (16, 1, 30), (17, 1, 31)]
 | 36 => .one (.int .i64 0)
 | 46 => .st [.int .i64 0, .int .i64 0, .slice none 0 0, .slice none 0 0] [(0, 1, 3), (1, 1, 3), (2, 1, 26), (3, 1, 26)]
 | 48 => .st [.int .i64 0, .string ⟨#[]⟩] [(0, 1, 3), (1, 1, 9)]
 | 49 => .one (.nilFunc)
 | 51 => .sl 288 6 80 (.agg #[.string ⟨#[]⟩, .int .i64 0, .int .i64 0, .int .i64 0, .string ⟨#[]⟩, .slice none 0 0])
 | 52 => .sl 54 5 64 (.agg #[.int .i64 0, .int .i64 0, .int .i64 0, .string ⟨#[]⟩, .slice none 0 0])
 | 54 => .st [.int .i64 0, .int .i64 0, .int .i64 0, .string ⟨#[]⟩, .slice none 0 0] [(0, 1, 3), (1, 1, 3), (2, 1, 3), (3, 1, 9), (4, 1, 52)]
 | 56 => .st [.string ⟨#[]⟩, .slice none 0 0, .int .i64 0, .int .i64 0, .int .i64 0, .string ⟨#[]⟩, .slice none 0 0, .int .i64 0, .int .i64 0, .int .i64 0, .string ⟨#[]⟩, .slice none 0 0, .int .i64 0, .int .i64 0, .int .i64 0, .string ⟨#[]⟩, .slice none 0 0, .int .i64 0, .int .i64 0, .int .i64 0, .string ⟨#[]⟩, .slice none 0 0, .int .i64 0, .int .i64 0, .int .i64 0] [(0, 1, 9), (1, 1, 51), (2, 5, 54), (7, 5, 54), (12, 5, 54), (17, 5, 54), (22, 1, 3), (23, 1, 3), (24, 1, 3)]
 | 60 => .sl 62 2 16 (.agg #[.int .i64 0, .int .i64 0])
 | 62 => .st [.int .i64 0, .int .i64 0] [(0, 1, 3), (1, 1, 3)]
 | 63 => .sl 68 2 16 (.agg #[.int .i64 0, .bool Bool.false])
 | 64 => .sl 151 2 16 (.agg #[.int .i64 0, .int .i64 0])
 | 66 => .st [.int .i64 0, .slice none 0 0, .slice none 0 0, .slice none 0 0] [(0, 1, 3), (1, 1, 63), (2, 1, 64), (3, 1, 26)]
 | 68 => .st [.int .i64 0, .bool Bool.false] [(0, 1, 3), (1, 1, 4)]
 | 70 => .st [.int .i64 0, .int .i64 0, .int .i64 0, .int .i64 0, .int .i64 0, .int .i64 0, .int .i64 0, .int .i64 0, .int .i64 0, .int .i64 0] [(0, 1, 3), (1, 1, 3), (2, 1, 3), (3, 1, 3), (4, 1, 3), (5, 1, 3), (6, 1, 3), (7, 1, 3), (8, 1, 3), (9, 1, 3)]
 | 72 => .st [.int .i64 0, .int .i64 0, .int .i64 0, .int .i64 0, .int .i64 0, .int .i64 0, .int .i64 0, .int .i64 0, .int .i64 0, .int .i64 0, .int .i64 0, .int .i64 0, .int .i64 0, .int .i64 0, .int .i64 0] [(0, 10, 70), (10, 1, 3), (11, 1, 3), (12, 1, 3), (13, 1, 3), (14, 1, 3)]
 | 73 => .sl 78 2 32 (.agg #[.int .i64 0, .slice none 0 0])
 | 75 => .st [.string ⟨#[]⟩, .int .i64 0, .slice none 0 0, .bool Bool.false] [(0, 1, 9), (1, 1, 3), (2, 1, 73), (3, 1, 4)]
 | 76 => .sl 80 2 16 (.agg #[.int .i64 0, .int .i64 0])
 | 78 => .st [.int .i64 0, .slice none 0 0] [(0, 1, 3), (1, 1, 76)]
 | 80 => .st [.int .i64 0, .int .i64 0] [(0, 1, 3), (1, 1, 3)]
 | 82 => .one (.pointer none)
 | 85 => .st [.pointer none] [(0, 1, 82)]
 | 87 => .one (.pointer none)
 | 89 => .one (.nilFunc)
 | 91 => .one (.nilFunc)
 | 94 => .st [.int .i64 0, .int .i64 0, .int .i64 0, .int .i64 0, .int .i64 0, .int .i64 0, .int .i64 0, .int .i64 0, .int .i64 0] [(0, 1, 3), (1, 1, 3), (2, 1, 3), (3, 1, 3), (4, 1, 3), (5, 1, 3), (6, 1, 3), (7, 1, 3), (8, 1, 3)]
 | 95 => .one (.nilFunc)
 | 97 => .one (.nilFunc)
 | 100 => .one (.nilFunc)
 | 101 => .one (.pointer none)
 | 104 => .one (.nilFunc)
 | 106 => .one (.nilFunc)
 | 107 => .one (.pointer none)
 | 109 => .one (.nilFunc)
 | 119 => .one (.nilFunc)
 | 120 => .one (.nilFunc)
 | 122 => .one (.nilFunc)
 | 124 => .one (.nilFunc)
 | 127 => .one (.nilFunc)
 | 133 => .one (.nilFunc)
 | 138 => .one (.nilFunc)
 | 141 => .one (.nilFunc)
 | 142 => .one (.nilFunc)
 | 144 => .one (.nilFunc)
 | 148 => .one (.nilFunc)
 | 151 => .st [.int .i64 0, .int .i64 0] [(0, 1, 3), (1, 1, 3)]
 | 152 => .one (.nilFunc)
 | 153 => .one (.nilFunc)
 | 155 => .one (.nilFunc)
 | 156 => .one (.nilFunc)
 | 159 => .one (.nilFunc)
 | 161 => .one (.nilFunc)
 | 162 => .one (.nilFunc)
 | 165 => .one (.nilFunc)
 | 167 => .one (.nilFunc)
 | 171 => .one (.nilFunc)
 | 173 => .one (.nilFunc)
 | 176 => .one (.nilFunc)
 | 178 => .one (.nilFunc)
 | 191 => .one (.pointer none)
 | 192 => .one (.pointer none)
 | 195 => .one (.pointer none)
 | 198 => .one (.pointer none)
 | 202 => .one (.pointer none)
 | 206 => .st [.string ⟨#[]⟩, .bool Bool.false] [(0, 1, 9), (1, 1, 4)]
 | 207 => .sl 87 1 8 (.pointer none)
 | 209 => .one (.nilFunc)
 | 211 => .one (.nilFunc)
 | 213 => .one (.nilFunc)
 | 215 => .one (.pointer none)
 | 220 => .one (.nilFunc)
 | 221 => .one (.nilFunc)
 | 223 => .st [.string ⟨#[]⟩, .bool Bool.false] [(0, 1, 9), (1, 1, 4)]
 | 225 => .one (.nilFunc)
 | 227 => .one (.nilFunc)
 | 228 => .one (.nilFunc)
 | 231 => .one (.nilFunc)
 | 233 => .one (.nilFunc)
 | 235 => .sl 265 4 40 (.agg #[.int .i64 0, .string ⟨#[]⟩, .int .i64 0, .int .i64 0])
 | 238 => .one (.pointer none)
 | 240 => .st [.slice none 0 0, .int .i64 0, .int .i64 0, .int .i64 0] [(0, 1, 235), (1, 1, 3), (2, 1, 36), (3, 1, 3)]
 | 241 => .one (.pointer none)
 | 242 => .sl 5 1 1 (.int .u8 0)
 | 244 => .st [.pointer none, .slice none 0 0] [(0, 1, 241), (1, 1, 242)]
 | 246 => .one (.nilIface)
 | 251 => .st [.slice none 0 0, .int .i64 0] [(0, 1, 235), (1, 1, 3)]
 | 253 => .st [.int .i64 0, .int .i64 0] [(0, 1, 3), (1, 1, 36)]
 | 257 => .one (.pointer none)
 | 258 => .one (.pointer none)
 | 259 => .st [.string ⟨#[]⟩, .pointer none] [(0, 1, 9), (1, 1, 258)]
 | 260 => .sl 259 2 24 (.agg #[.string ⟨#[]⟩, .pointer none])
 | 265 => .st [.int .i64 0, .string ⟨#[]⟩, .int .i64 0, .int .i64 0] [(0, 1, 3), (1, 1, 9), (2, 1, 3), (3, 1, 3)]
 | 281 => .one (.pointer none)
 | 284 => .sl 9 1 16 (.string ⟨#[]⟩)
 | 288 => .st [.string ⟨#[]⟩, .int .i64 0, .int .i64 0, .int .i64 0, .string ⟨#[]⟩, .slice none 0 0] [(0, 1, 9), (1, 5, 54)]
 | 300 => .one (.pointer none)
 | 303 => .ar 11 9 1 [.string ⟨#[]⟩, .string ⟨#[]⟩, .string ⟨#[]⟩, .string ⟨#[]⟩, .string ⟨#[]⟩, .string ⟨#[]⟩, .string ⟨#[]⟩, .string ⟨#[]⟩, .string ⟨#[]⟩, .string ⟨#[]⟩, .string ⟨#[]⟩]
 | 309 => .sl 311 3 32 (.agg #[.string ⟨#[]⟩, .int .i64 0, .int .i64 0])
 | 311 => .st [.string ⟨#[]⟩, .int .i64 0, .int .i64 0] [(0, 1, 9), (1, 1, 3), (2, 1, 3)]
 | 313 => .one (.nilFunc)
 | _ => .no
theorem ti1 : tiOf Tryz.prog 1 = ti 1 := by kernel_rfl
theorem ti3 : tiOf Tryz.prog 3 = ti 3 := by kernel_rfl
theorem ti4 : tiOf Tryz.prog 4 = ti 4 := by kernel_rfl
theorem ti5 : tiOf Tryz.prog 5 = ti 5 := by kernel_rfl
theorem ti9 : tiOf Tryz.prog 9 = ti 9 := by kernel_rfl
theorem ti20 : tiOf Tryz.prog 20 = ti 20 := by kernel_rfl
theorem ti22 : tiOf Tryz.prog 22 = ti 22 := by kernel_rfl
theorem ti23 : tiOf Tryz.prog 23 = ti 23 := by kernel_rfl
theorem ti24 : tiOf Tryz.prog 24 = ti 24 := by kernel_rfl
theorem ti25 : tiOf Tryz.prog 25 = ti 25 := by kernel_rfl
theorem ti26 : tiOf Tryz.prog 26 = ti 26 := by kernel_rfl
theorem ti27 : tiOf Tryz.prog 27 = ti 27 := by kernel_rfl
theorem ti29 : tiOf Tryz.prog 29 = ti 29 := by kernel_rfl
theorem ti30 : tiOf Tryz.prog 30 = ti 30 := by kernel_rfl
theorem ti31 : tiOf Tryz.prog 31 = ti 31 := by kernel_rfl
theorem ti33 : tiOf Tryz.prog 33 = ti 33 := by kernel_rfl
theorem ti36 : tiOf Tryz.prog 36 = ti 36 := by kernel_rfl
theorem ti46 : tiOf Tryz.prog 46 = ti 46 := by kernel_rfl
theorem ti48 : tiOf Tryz.prog 48 = ti 48 := by kernel_rfl
theorem ti49 : tiOf Tryz.prog 49 = ti 49 := by kernel_rfl
theorem ti51 : tiOf Tryz.prog 51 = ti 51 := by kernel_rfl
theorem ti52 : tiOf Tryz.prog 52 = ti 52 := by kernel_rfl
theorem ti54 : tiOf Tryz.prog 54 = ti 54 := by kernel_rfl
theorem ti56 : tiOf Tryz.prog 56 = ti 56 := by kernel_rfl
theorem ti60 : tiOf Tryz.prog 60 = ti 60 := by kernel_rfl
theorem ti62 : tiOf Tryz.prog 62 = ti 62 := by kernel_rfl
theorem ti63 : tiOf Tryz.prog 63 = ti 63 := by kernel_rfl
theorem ti64 : tiOf Tryz.prog 64 = ti 64 := by kernel_rfl
theorem ti66 : tiOf Tryz.prog 66 = ti 66 := by kernel_rfl
theorem ti68 : tiOf Tryz.prog 68 = ti 68 := by kernel_rfl
theorem ti70 : tiOf Tryz.prog 70 = ti 70 := by kernel_rfl
theorem ti72 : tiOf Tryz.prog 72 = ti 72 := by kernel_rfl
theorem ti73 : tiOf Tryz.prog 73 = ti 73 := by kernel_rfl
theorem ti75 : tiOf Tryz.prog 75 = ti 75 := by kernel_rfl
theorem ti76 : tiOf Tryz.prog 76 = ti 76 := by kernel_rfl
theorem ti78 : tiOf Tryz.prog 78 = ti 78 := by kernel_rfl
theorem ti80 : tiOf Tryz.prog 80 = ti 80 := by kernel_rfl
theorem ti82 : tiOf Tryz.prog 82 = ti 82 := by kernel_rfl
theorem ti85 : tiOf Tryz.prog 85 = ti 85 := by kernel_rfl
theorem ti87 : tiOf Tryz.prog 87 = ti 87 := by kernel_rfl
theorem ti89 : tiOf Tryz.prog 89 = ti 89 := by kernel_rfl
theorem ti91 : tiOf Tryz.prog 91 = ti 91 := by kernel_rfl
theorem ti94 : tiOf Tryz.prog 94 = ti 94 := by kernel_rfl
theorem ti95 : tiOf Tryz.prog 95 = ti 95 := by kernel_rfl
theorem ti97 : tiOf Tryz.prog 97 = ti 97 := by kernel_rfl
theorem ti100 : tiOf Tryz.prog 100 = ti 100 := by kernel_rfl
theorem ti101 : tiOf Tryz.prog 101 = ti 101 := by kernel_rfl
theorem ti104 : tiOf Tryz.prog 104 = ti 104 := by kernel_rfl
theorem ti106 : tiOf Tryz.prog 106 = ti 106 := by kernel_rfl
theorem ti107 : tiOf Tryz.prog 107 = ti 107 := by kernel_rfl
theorem ti109 : tiOf Tryz.prog 109 = ti 109 := by kernel_rfl
theorem ti119 : tiOf Tryz.prog 119 = ti 119 := by kernel_rfl
theorem ti120 : tiOf Tryz.prog 120 = ti 120 := by kernel_rfl
theorem ti122 : tiOf Tryz.prog 122 = ti 122 := by kernel_rfl
theorem ti124 : tiOf Tryz.prog 124 = ti 124 := by kernel_rfl
theorem ti127 : tiOf Tryz.prog 127 = ti 127 := by kernel_rfl
theorem ti133 : tiOf Tryz.prog 133 = ti 133 := by kernel_rfl
theorem ti138 : tiOf Tryz.prog 138 = ti 138 := by kernel_rfl
theorem ti141 : tiOf Tryz.prog 141 = ti 141 := by kernel_rfl
theorem ti142 : tiOf Tryz.prog 142 = ti 142 := by kernel_rfl
theorem ti144 : tiOf Tryz.prog 144 = ti 144 := by kernel_rfl
theorem ti148 : tiOf Tryz.prog 148 = ti 148 := by kernel_rfl
theorem ti151 : tiOf Tryz.prog 151 = ti 151 := by kernel_rfl
theorem ti152 : tiOf Tryz.prog 152 = ti 152 := by kernel_rfl
theorem ti153 : tiOf Tryz.prog 153 = ti 153 := by kernel_rfl
theorem ti155 : tiOf Tryz.prog 155 = ti 155 := by kernel_rfl
theorem ti156 : tiOf Tryz.prog 156 = ti 156 := by kernel_rfl
theorem ti159 : tiOf Tryz.prog 159 = ti 159 := by kernel_rfl
theorem ti161 : tiOf Tryz.prog 161 = ti 161 := by kernel_rfl
theorem ti162 : tiOf Tryz.prog 162 = ti 162 := by kernel_rfl
theorem ti165 : tiOf Tryz.prog 165 = ti 165 := by kernel_rfl
theorem ti167 : tiOf Tryz.prog 167 = ti 167 := by kernel_rfl
theorem ti171 : tiOf Tryz.prog 171 = ti 171 := by kernel_rfl
theorem ti173 : tiOf Tryz.prog 173 = ti 173 := by kernel_rfl
theorem ti176 : tiOf Tryz.prog 176 = ti 176 := by kernel_rfl
theorem ti178 : tiOf Tryz.prog 178 = ti 178 := by kernel_rfl
theorem ti191 : tiOf Tryz.prog 191 = ti 191 := by kernel_rfl
theorem ti192 : tiOf Tryz.prog 192 = ti 192 := by kernel_rfl
theorem ti195 : tiOf Tryz.prog 195 = ti 195 := by kernel_rfl
theorem ti198 : tiOf Tryz.prog 198 = ti 198 := by kernel_rfl
theorem ti202 : tiOf Tryz.prog 202 = ti 202 := by kernel_rfl
theorem ti206 : tiOf Tryz.prog 206 = ti 206 := by kernel_rfl
theorem ti207 : tiOf Tryz.prog 207 = ti 207 := by kernel_rfl
theorem ti209 : tiOf Tryz.prog 209 = ti 209 := by kernel_rfl
theorem ti211 : tiOf Tryz.prog 211 = ti 211 := by kernel_rfl
theorem ti213 : tiOf Tryz.prog 213 = ti 213 := by kernel_rfl
theorem ti215 : tiOf Tryz.prog 215 = ti 215 := by kernel_rfl
theorem ti220 : tiOf Tryz.prog 220 = ti 220 := by kernel_rfl
theorem ti221 : tiOf Tryz.prog 221 = ti 221 := by kernel_rfl
theorem ti223 : tiOf Tryz.prog 223 = ti 223 := by kernel_rfl
theorem ti225 : tiOf Tryz.prog 225 = ti 225 := by kernel_rfl
theorem ti227 : tiOf Tryz.prog 227 = ti 227 := by kernel_rfl
theorem ti228 : tiOf Tryz.prog 228 = ti 228 := by kernel_rfl
theorem ti231 : tiOf Tryz.prog 231 = ti 231 := by kernel_rfl
theorem ti233 : tiOf Tryz.prog 233 = ti 233 := by kernel_rfl
theorem ti235 : tiOf Tryz.prog 235 = ti 235 := by kernel_rfl
theorem ti238 : tiOf Tryz.prog 238 = ti 238 := by kernel_rfl
theorem ti240 : tiOf Tryz.prog 240 = ti 240 := by kernel_rfl
theorem ti241 : tiOf Tryz.prog 241 = ti 241 := by kernel_rfl
theorem ti242 : tiOf Tryz.prog 242 = ti 242 := by kernel_rfl
theorem ti244 : tiOf Tryz.prog 244 = ti 244 := by kernel_rfl
theorem ti246 : tiOf Tryz.prog 246 = ti 246 := by kernel_rfl
theorem ti251 : tiOf Tryz.prog 251 = ti 251 := by kernel_rfl
theorem ti253 : tiOf Tryz.prog 253 = ti 253 := by kernel_rfl
theorem ti257 : tiOf Tryz.prog 257 = ti 257 := by kernel_rfl
theorem ti258 : tiOf Tryz.prog 258 = ti 258 := by kernel_rfl
theorem ti259 : tiOf Tryz.prog 259 = ti 259 := by kernel_rfl
theorem ti260 : tiOf Tryz.prog 260 = ti 260 := by kernel_rfl
theorem ti265 : tiOf Tryz.prog 265 = ti 265 := by kernel_rfl
theorem ti281 : tiOf Tryz.prog 281 = ti 281 := by kernel_rfl
theorem ti284 : tiOf Tryz.prog 284 = ti 284 := by kernel_rfl
theorem ti288 : tiOf Tryz.prog 288 = ti 288 := by kernel_rfl
theorem ti300 : tiOf Tryz.prog 300 = ti 300 := by kernel_rfl
theorem ti303 : tiOf Tryz.prog 303 = ti 303 := by kernel_rfl
theorem ti309 : tiOf Tryz.prog 309 = ti 309 := by kernel_rfl
theorem ti311 : tiOf Tryz.prog 311 = ti 311 := by kernel_rfl
theorem ti313 : tiOf Tryz.prog 313 = ti 313 := by kernel_rfl
set_option maxRecDepth 10000 in
theorem aUx : ∀ t, ti t ≠ .no → tiOf Tryz.prog t = ti t := by
 intro t h
 unfold ti at h
 split at h
 ·exact ti1
 ·exact ti3
 ·exact ti4
 ·exact ti5
 ·exact ti9
 ·exact ti20
 ·exact ti22
 ·exact ti23
 ·exact ti24
 ·exact ti25
 ·exact ti26
 ·exact ti27
 ·exact ti29
 ·exact ti30
 ·exact ti31
 ·exact ti33
 ·exact ti36
 ·exact ti46
 ·exact ti48
 ·exact ti49
 ·exact ti51
 ·exact ti52
 ·exact ti54
 ·exact ti56
 ·exact ti60
 ·exact ti62
 ·exact ti63
 ·exact ti64
 ·exact ti66
 ·exact ti68
 ·exact ti70
 ·exact ti72
 ·exact ti73
 ·exact ti75
 ·exact ti76
 ·exact ti78
 ·exact ti80
 ·exact ti82
 ·exact ti85
 ·exact ti87
 ·exact ti89
 ·exact ti91
 ·exact ti94
 ·exact ti95
 ·exact ti97
 ·exact ti100
 ·exact ti101
 ·exact ti104
 ·exact ti106
 ·exact ti107
 ·exact ti109
 ·exact ti119
 ·exact ti120
 ·exact ti122
 ·exact ti124
 ·exact ti127
 ·exact ti133
 ·exact ti138
 ·exact ti141
 ·exact ti142
 ·exact ti144
 ·exact ti148
 ·exact ti151
 ·exact ti152
 ·exact ti153
 ·exact ti155
 ·exact ti156
 ·exact ti159
 ·exact ti161
 ·exact ti162
 ·exact ti165
 ·exact ti167
 ·exact ti171
 ·exact ti173
 ·exact ti176
 ·exact ti178
 ·exact ti191
 ·exact ti192
 ·exact ti195
 ·exact ti198
 ·exact ti202
 ·exact ti206
 ·exact ti207
 ·exact ti209
 ·exact ti211
 ·exact ti213
 ·exact ti215
 ·exact ti220
 ·exact ti221
 ·exact ti223
 ·exact ti225
 ·exact ti227
 ·exact ti228
 ·exact ti231
 ·exact ti233
 ·exact ti235
 ·exact ti238
 ·exact ti240
 ·exact ti241
 ·exact ti242
 ·exact ti244
 ·exact ti246
 ·exact ti251
 ·exact ti253
 ·exact ti257
 ·exact ti258
 ·exact ti259
 ·exact ti260
 ·exact ti265
 ·exact ti281
 ·exact ti284
 ·exact ti288
 ·exact ti300
 ·exact ti303
 ·exact ti309
 ·exact ti311
 ·exact ti313
 ·exact absurd rfl h
def ki : Nat → Option IntKind
 | 2 => some .i64
 | 3 => some .i64
 | 5 => some .u8
 | 6 => some .u8
 | 12 => some .u64
 | 21 => some .i32
 | 36 => some .i64
 | 314 => some .i64
 | 325 => some .u64
 | 333 => some .u64
 | 339 => some .u32
 | 354 => some .u8
 | 355 => some .u8
 | 357 => some .i32
 | 358 => some .i32
 | _ => none
theorem ki2 : Tryz.prog.underlying 2 = some (.int .i64) := by kernel_rfl
theorem ki3 : Tryz.prog.underlying 3 = some (.int .i64) := by kernel_rfl
theorem ki5 : Tryz.prog.underlying 5 = some (.int .u8) := by kernel_rfl
theorem ki6 : Tryz.prog.underlying 6 = some (.int .u8) := by kernel_rfl
theorem ki12 : Tryz.prog.underlying 12 = some (.int .u64) := by kernel_rfl
theorem ki21 : Tryz.prog.underlying 21 = some (.int .i32) := by kernel_rfl
theorem ki36 : Tryz.prog.underlying 36 = some (.int .i64) := by kernel_rfl
theorem ki314 : Tryz.prog.underlying 314 = some (.int .i64) := by kernel_rfl
theorem ki325 : Tryz.prog.underlying 325 = some (.int .u64) := by kernel_rfl
theorem ki333 : Tryz.prog.underlying 333 = some (.int .u64) := by kernel_rfl
theorem ki339 : Tryz.prog.underlying 339 = some (.int .u32) := by kernel_rfl
theorem ki354 : Tryz.prog.underlying 354 = some (.int .u8) := by kernel_rfl
theorem ki355 : Tryz.prog.underlying 355 = some (.int .u8) := by kernel_rfl
theorem ki357 : Tryz.prog.underlying 357 = some (.int .i32) := by kernel_rfl
theorem ki358 : Tryz.prog.underlying 358 = some (.int .i32) := by kernel_rfl
theorem kiok : ∀ t k, ki t = some k → Tryz.prog.underlying t = some (.int k) := by
 intro t k h
 unfold ki at h
 split at h
 ·cases h; exact ki2
 ·cases h; exact ki3
 ·cases h; exact ki5
 ·cases h; exact ki6
 ·cases h; exact ki12
 ·cases h; exact ki21
 ·cases h; exact ki36
 ·cases h; exact ki314
 ·cases h; exact ki325
 ·cases h; exact ki333
 ·cases h; exact ki339
 ·cases h; exact ki354
 ·cases h; exact ki355
 ·cases h; exact ki357
 ·cases h; exact ki358
 ·cases h
end Go.Proofs.YtaodngiigdbgeaaGreatDoor
end
