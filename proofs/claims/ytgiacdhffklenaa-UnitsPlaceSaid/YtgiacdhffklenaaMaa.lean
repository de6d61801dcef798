/-
  Conditions: none.
-/
import Derived.WalkKit
import Derived.Outline
import Derived.Deep.QuietTactic
import Derived.BigQuiet
import Derived.Lib.Hide
import Derived.Test.YtgiacdhffklenaaProg
import Derived.KernelRfl
set_option maxHeartbeats 16000000
set_option maxRecDepth 20000
namespace Go.Proofs.Ytgiacdhffklenaa
section
open Go.RowKit
def Shows (w : World) (B s : Nat) (A : Option Addr) (n : Nat) (xs : List Value) : Prop :=
 xs.length = n * s ∧ (0 < n → ∃ b o, A = some ⟨b, o, none⟩ ∧ b < B ∧ ∀ j u, xs[j]? = some u → w.cell? ⟨b, o + j, none⟩ = some u)
section
variable {w w' : World} {B B' s n : Nat} {A : Option Addr} {xs : List Value}
theorem Shows.empty (w : World) (B s : Nat) (A : Option Addr) : Shows w B s A 0 [] := ⟨by simp, fun h => absurd h (by omega)⟩
theorem Shows.keep (h : Shows w B s A n xs) (hk : ∀ b o, b < B → w'.cell? ⟨b, o, none⟩ = w.cell? ⟨b, o, none⟩) : Shows w' B s A n xs :=
 ⟨h.1, fun hn => by
  obtain ⟨b, o, e, hb, hc⟩ := h.2 hn
  exact ⟨b, o, e, hb, fun j u hu => (hk _ _ hb).trans (hc j u hu)⟩⟩
theorem Shows.more (h : Shows w B s A n xs) (hB : B ≤ B') : Shows w B' s A n xs :=
 ⟨h.1, fun hn => by
  obtain ⟨b, o, e, hb, hc⟩ := h.2 hn
  exact ⟨b, o, e, by omega, hc⟩⟩
theorem Shows.below (h : Shows w B s A n xs) (hb : Below B w w') : Shows w' B s A n xs := h.keep fun _ _ hp => hb.cell (p := ⟨_, _, none⟩) hp
theorem Shows.alloc (h : Shows w B s A n xs) (hB : B ≤ w.heap.size) (o : Obj) : Shows (w.alloc o) B s A n xs := h.below ((Below.refl B w).alloc hB o)
theorem Shows.len (h : Shows w B s A n xs) : xs.length = n * s := h.1
end
theorem bcell {B : Nat} {W w1 : World} (hb : Below B W w1) : (∀ b o, b < B → w1.cell? ⟨b, o, none⟩ = W.cell? ⟨b, o, none⟩) ∧ (∀ b o, b < B → w1.frozen? ⟨b, o, none⟩ = W.frozen? ⟨b, o, none⟩) :=
 ⟨fun b o h => hb.cell (p := ⟨b, o, none⟩) h, fun b o h => hb.frozen (p := ⟨b, o, none⟩) h⟩
structure P2 where
 a : Int
 b : Int
 deriving DecidableEq
def P2.cells (l : List P2) : List Value := l.flatMap fun x => [.int .i64 x.a, .int .i64 x.b]
theorem P2.length (l : List P2) : (P2.cells l).length = l.length * 2 := by
 induction l with
 | nil => rfl
 | cons x l ih => simp only [P2.cells, List.flatMap_cons, List.length_append, List.length_cons, List.length_nil] at ih ⊢; omega
theorem P2.get (l : List P2) (k : Nat) (hk : k < l.length) : (P2.cells l)[k * 2]? = some (.int .i64 l[k].a) ∧ (P2.cells l)[k * 2 + 1]? = some (.int .i64 l[k].b) := by
 induction l generalizing k with
 | nil => simp at hk
 | cons x l ih =>
  cases k with
  | zero => exact ⟨rfl, rfl⟩
  | succ k =>
   have := ih k (by simpa using hk)
   simp only [P2.cells, List.flatMap_cons] at this ⊢
   rw [show (k + 1) * 2 = k * 2 + 2 from by omega]
   simpa using this
def Two (w : World) (B : Nat) (A : Option Addr) (l : List P2) : Prop := Shows w B 2 A l.length (P2.cells l)
theorem Two.at_ {w : World} {B : Nat} {A : Option Addr} {l : List P2} (h : Two w B A l) {k : Nat} (hk : k < l.length) :
  ∃ b o, A = some ⟨b, o, none⟩ ∧ b < B ∧ w.cell? ⟨b, o + k * 2, none⟩ = some (.int .i64 l[k].a) ∧ w.cell? ⟨b, o + k * 2 + 1, none⟩ = some (.int .i64 l[k].b) := by
 obtain ⟨b, o, e, hb, hc⟩ := h.2 (by omega)
 exact ⟨b, o, e, hb, hc _ _ (P2.get l k hk).1, hc _ _ (P2.get l k hk).2⟩
theorem Two.below {w w' : World} {B : Nat} {A : Option Addr} {l : List P2} (h : Two w B A l) (hb : Below B w w') : Two w' B A l := Shows.below h hb
def ints (l : List Int) : List Value := l.map (Value.int .i64)
theorem ints_get (l : List Int) (k : Nat) (hk : k < l.length) : (ints l)[k]? = some (.int .i64 l[k]) := by simp [ints, hk]
def Nums (w : World) (B : Nat) (A : Option Addr) (l : List Int) : Prop := Shows w B 1 A l.length (ints l)
theorem Nums.at_ {w : World} {B : Nat} {A : Option Addr} {l : List Int} (h : Nums w B A l) {k : Nat} (hk : k < l.length) :
  ∃ b o, A = some ⟨b, o, none⟩ ∧ b < B ∧ w.cell? ⟨b, o + k, none⟩ = some (.int .i64 l[k]) := by
 obtain ⟨b, o, e, hb, hc⟩ := h.2 (by omega)
 exact ⟨b, o, e, hb, hc _ _ (ints_get l k hk)⟩
theorem Nums.below {w w' : World} {B : Nat} {A : Option Addr} {l : List Int} (h : Nums w B A l) (hb : Below B w w') : Nums w' B A l := Shows.below h hb
theorem Nums.more {w : World} {B B' : Nat} {A : Option Addr} {l : List Int} (h : Nums w B A l) (hB : B ≤ B') : Nums w B' A l := Shows.more h hB
theorem P2.append (l r : List P2) : P2.cells (l ++ r) = P2.cells l ++ P2.cells r := by simp [P2.cells]
end
section
open Go.RowKit
inductive TI where
 | no
 | one (z : Value)
 | st (z : List Value) (fs : List (Nat × Nat × Nat))
 | ar (n e es : Nat) (z : List Value)
 | sl (e es eb : Nat) (ez : Value)
def tiOf (P : Program) (t : TypeId) : TI :=
 match P.info? t, P.underlying t with
 | some i, some (.struct fs) =>
  match i.zero, fs.toList.mapM (fun f => (P.info? f.type).map fun j => (f.offset, j.size, f.type)) with
  | some (.agg z), some pl => if z.size = i.size then .st z.toList pl else .no
  | _, _ => .no
 | some i, some (.array n e) =>
  match i.zero, P.info? e with
  | some (.agg z), some j => if z.size = i.size then .ar n e j.size z.toList else .no
  | _, _ => .no
 | some i, some (.slice e) =>
  match P.info? e with
  | some j => match j.zero with
   | some ez => if i.size = 1 ∧ ez.cells.size = j.size then .sl e j.size j.bytes ez else .no
   | none => .no
  | none => .no
 | some i, some _ => match i.zero with
  | some z => if i.size = 1 ∧ z.oneCell' = true then .one z else .no
  | none => .no
 | _, _ => .no
end
section
def ti : Nat → TI
 | 1 => .one (.nilFunc)
 | 2 => .one (.int .i64 0)
 | 3 => .one (.int .i64 0)
 | 4 => .one (.bool Bool.false)
 | 5 => .one (.int .u8 0)
 | 6 => .one (.int .u8 0)
 | 7 => .st [.int .i64 0, .int .i64 0, .bool Bool.false, .int .u8 0] [(0, 1, 2), (1, 1, 3), (2, 1, 4), (3, 1, 6)]
 | 8 => .st [.int .i64 0, .int .i64 0, .bool Bool.false, .int .u8 0] [(0, 1, 2), (1, 1, 3), (2, 1, 4), (3, 1, 6)]
 | 9 => .one (.string ⟨#[]⟩)
 | 10 => .one (.string ⟨#[]⟩)
 | 11 => .one (.string ⟨#[]⟩)
 | 12 => .one (.int .u64 0)
 | 13 => .st [.string ⟨#[]⟩, .int .u64 0] [(0, 1, 9), (1, 1, 12)]
 | 14 => .st [.string ⟨#[]⟩, .int .u64 0] [(0, 1, 9), (1, 1, 12)]
 | 15 => .one (.pointer none)
 | 16 => .one (.pointer none)
 | 17 => .one (.pointer none)
 | 18 => .st [.pointer none] [(0, 1, 17)]
 | 19 => .st [.pointer none] [(0, 1, 17)]
 | 20 => .one (.nilIface)
 | 21 => .one (.int .i32 0)
 | 22 => .sl 46 6 80 (.agg #[.string ⟨#[]⟩, .int .i64 0, .int .i64 0, .int .i64 0, .string ⟨#[]⟩, .slice none 0 0])
 | 23 => .sl 25 5 64 (.agg #[.int .i64 0, .int .i64 0, .int .i64 0, .string ⟨#[]⟩, .slice none 0 0])
 | 24 => .st [.int .i64 0, .int .i64 0, .int .i64 0, .string ⟨#[]⟩, .slice none 0 0] [(0, 1, 3), (1, 1, 3), (2, 1, 3), (3, 1, 9), (4, 1, 23)]
 | 25 => .st [.int .i64 0, .int .i64 0, .int .i64 0, .string ⟨#[]⟩, .slice none 0 0] [(0, 1, 3), (1, 1, 3), (2, 1, 3), (3, 1, 9), (4, 1, 23)]
 | 26 => .st [.string ⟨#[]⟩, .slice none 0 0, .int .i64 0, .int .i64 0, .int .i64 0, .string ⟨#[]⟩, .slice none 0 0, .int .i64 0, .int .i64 0, .int .i64 0, .string ⟨#[]⟩, .slice none 0 0, .int .i64 0, .int .i64 0, .int .i64 0, .string ⟨#[]⟩, .slice none 0 0, .int .i64 0, .int .i64 0, .int .i64 0, .string ⟨#[]⟩, .slice none 0 0, .int .i64 0, .int .i64 0, .int .i64 0] [(0, 1, 9), (1, 1, 22), (2, 5, 25), (7, 5, 25), (12, 5, 25), (17, 5, 25), (22, 1, 3), (23, 1, 3), (24, 1, 3)]
 | 27 => .st [.string ⟨#[]⟩, .slice none 0 0, .int .i64 0, .int .i64 0, .int .i64 0, .string ⟨#[]⟩, .slice none 0 0, .int .i64 0, .int .i64 0, .int .i64 0, .string ⟨#[]⟩, .slice none 0 0, .int .i64 0, .int .i64 0, .int .i64 0, .string ⟨#[]⟩, .slice none 0 0, .int .i64 0, .int .i64 0, .int .i64 0, .string ⟨#[]⟩, .slice none 0 0, .int .i64 0, .int .i64 0, .int .i64 0] [(0, 1, 9), (1, 1, 22), (2, 5, 25), (7, 5, 25), (12, 5, 25), (17, 5, 25), (22, 1, 3), (23, 1, 3), (24, 1, 3)]
 | 28 => .one (.nilFunc)
 | 29 => .one (.nilFunc)
 | 30 => .one (.nilFunc)
 | 31 => .sl 3 1 8 (.int .i64 0)
 | 32 => .one (.int .i64 0)
 | 34 => .one (.nilFunc)
 | 36 => .one (.nilFunc)
 | 37 => .one (.nilFunc)
 | 38 => .one (.nilFunc)
 | 39 => .one (.nilFunc)
 | 41 => .one (.nilFunc)
 | 42 => .one (.nilFunc)
 | 43 => .one (.nilFunc)
 | 44 => .one (.nilFunc)
 | 45 => .st [.string ⟨#[]⟩, .int .i64 0, .int .i64 0, .int .i64 0, .string ⟨#[]⟩, .slice none 0 0] [(0, 1, 9), (1, 5, 25)]
 | 46 => .st [.string ⟨#[]⟩, .int .i64 0, .int .i64 0, .int .i64 0, .string ⟨#[]⟩, .slice none 0 0] [(0, 1, 9), (1, 5, 25)]
 | 47 => .one (.nilFunc)
 | 48 => .one (.nilFunc)
 | 49 => .one (.nilFunc)
 | 50 => .one (.nilFunc)
 | 51 => .one (.nilFunc)
 | 52 => .one (.nilFunc)
 | 53 => .one (.nilFunc)
 | 54 => .one (.nilFunc)
 | 55 => .one (.nilFunc)
 | 56 => .one (.nilFunc)
 | 57 => .st [.slice none 0 0, .int .i64 0] [(0, 1, 31), (1, 1, 32)]
 | 58 => .st [.slice none 0 0, .int .i64 0] [(0, 1, 31), (1, 1, 32)]
 | 60 => .st [.slice none 0 0, .slice none 0 0] [(0, 1, 22), (1, 1, 31)]
 | 61 => .st [.slice none 0 0, .slice none 0 0] [(0, 1, 22), (1, 1, 31)]
 | 62 => .one (.nilFunc)
 | 63 => .one (.nilFunc)
 | 64 => .sl 9 1 16 (.string ⟨#[]⟩)
 | 65 => .st [.int .i64 0, .slice none 0 0, .int .i64 0] [(0, 1, 3), (1, 1, 31), (2, 1, 32)]
 | 66 => .st [.int .i64 0, .slice none 0 0, .int .i64 0] [(0, 1, 3), (1, 1, 31), (2, 1, 32)]
 | 67 => .one (.nilFunc)
 | 68 => .one (.nilFunc)
 | 69 => .one (.nilFunc)
 | 70 => .one (.nilFunc)
 | 71 => .one (.nilFunc)
 | 72 => .one (.nilFunc)
 | 73 => .one (.nilFunc)
 | 74 => .one (.nilFunc)
 | 75 => .one (.nilFunc)
 | 76 => .one (.nilFunc)
 | 77 => .one (.nilFunc)
 | 78 => .one (.nilFunc)
 | 79 => .one (.nilFunc)
 | 80 => .one (.nilFunc)
 | 81 => .one (.nilFunc)
 | 82 => .one (.nilFunc)
 | 83 => .one (.nilFunc)
 | 84 => .one (.nilFunc)
 | 85 => .one (.nilFunc)
 | 86 => .one (.nilFunc)
 | 87 => .one (.nilFunc)
 | 88 => .one (.nilFunc)
 | 89 => .one (.nilFunc)
 | 90 => .one (.nilFunc)
 | 91 => .one (.nilFunc)
 | 92 => .one (.nilFunc)
 | 93 => .one (.nilFunc)
 | 94 => .st [.pointer none, .pointer none, .pointer none, .string ⟨#[]⟩] [(0, 1, 17), (1, 1, 17), (2, 1, 17), (3, 1, 9)]
 | 95 => .st [.pointer none, .pointer none, .pointer none, .string ⟨#[]⟩] [(0, 1, 17), (1, 1, 17), (2, 1, 17), (3, 1, 9)]
 | 96 => .ar 0 16 1 []
 | 97 => .st [] [(0, 0, 96)]
 | 98 => .st [] [(0, 0, 96)]
 | 99 => .one (.nilFunc)
 | 100 => .one (.int .u32 0)
 | 101 => .one (.int .u8 0)
 | 102 => .one (.int .u8 0)
 | 103 => .one (.nilFunc)
 | 104 => .one (.pointer none)
 | 105 => .one (.int .i32 0)
 | 106 => .one (.int .i32 0)
 | 107 => .st [.int .u64 0, .int .u64 0, .int .u32 0, .int .u8 0, .int .u8 0, .int .u8 0, .int .u8 0, .nilFunc, .pointer none, .int .i32 0, .int .i32 0] [(0, 1, 12), (1, 1, 12), (2, 1, 100), (3, 1, 101), (4, 1, 5), (5, 1, 5), (6, 1, 102), (7, 1, 103), (8, 1, 104), (9, 1, 105), (10, 1, 106)]
 | 108 => .st [.int .u64 0, .int .u64 0, .int .u32 0, .int .u8 0, .int .u8 0, .int .u8 0, .int .u8 0, .nilFunc, .pointer none, .int .i32 0, .int .i32 0] [(0, 1, 12), (1, 1, 12), (2, 1, 100), (3, 1, 101), (4, 1, 5), (5, 1, 5), (6, 1, 102), (7, 1, 103), (8, 1, 104), (9, 1, 105), (10, 1, 106)]
 | 109 => .one (.pointer none)
 | _ => .no
theorem ti1 : tiOf Try.prog 1 = ti 1 := by kernel_rfl
theorem ti2 : tiOf Try.prog 2 = ti 2 := by kernel_rfl
theorem ti3 : tiOf Try.prog 3 = ti 3 := by kernel_rfl
theorem ti4 : tiOf Try.prog 4 = ti 4 := by kernel_rfl
theorem ti5 : tiOf Try.prog 5 = ti 5 := by kernel_rfl
theorem ti6 : tiOf Try.prog 6 = ti 6 := by kernel_rfl
theorem ti7 : tiOf Try.prog 7 = ti 7 := by kernel_rfl
theorem ti8 : tiOf Try.prog 8 = ti 8 := by kernel_rfl
theorem ti9 : tiOf Try.prog 9 = ti 9 := by kernel_rfl
theorem ti10 : tiOf Try.prog 10 = ti 10 := by kernel_rfl
theorem ti11 : tiOf Try.prog 11 = ti 11 := by kernel_rfl
theorem ti12 : tiOf Try.prog 12 = ti 12 := by kernel_rfl
theorem ti13 : tiOf Try.prog 13 = ti 13 := by kernel_rfl
theorem ti14 : tiOf Try.prog 14 = ti 14 := by kernel_rfl
theorem ti15 : tiOf Try.prog 15 = ti 15 := by kernel_rfl
theorem ti16 : tiOf Try.prog 16 = ti 16 := by kernel_rfl
theorem ti17 : tiOf Try.prog 17 = ti 17 := by kernel_rfl
theorem ti18 : tiOf Try.prog 18 = ti 18 := by kernel_rfl
theorem ti19 : tiOf Try.prog 19 = ti 19 := by kernel_rfl
theorem ti20 : tiOf Try.prog 20 = ti 20 := by kernel_rfl
theorem ti21 : tiOf Try.prog 21 = ti 21 := by kernel_rfl
theorem ti22 : tiOf Try.prog 22 = ti 22 := by kernel_rfl
theorem ti23 : tiOf Try.prog 23 = ti 23 := by kernel_rfl
theorem ti24 : tiOf Try.prog 24 = ti 24 := by kernel_rfl
theorem ti25 : tiOf Try.prog 25 = ti 25 := by kernel_rfl
theorem ti26 : tiOf Try.prog 26 = ti 26 := by kernel_rfl
theorem ti27 : tiOf Try.prog 27 = ti 27 := by kernel_rfl
theorem ti28 : tiOf Try.prog 28 = ti 28 := by kernel_rfl
theorem ti29 : tiOf Try.prog 29 = ti 29 := by kernel_rfl
theorem ti30 : tiOf Try.prog 30 = ti 30 := by kernel_rfl
theorem ti31 : tiOf Try.prog 31 = ti 31 := by kernel_rfl
theorem ti32 : tiOf Try.prog 32 = ti 32 := by kernel_rfl
theorem ti34 : tiOf Try.prog 34 = ti 34 := by kernel_rfl
theorem ti36 : tiOf Try.prog 36 = ti 36 := by kernel_rfl
theorem ti37 : tiOf Try.prog 37 = ti 37 := by kernel_rfl
theorem ti38 : tiOf Try.prog 38 = ti 38 := by kernel_rfl
theorem ti39 : tiOf Try.prog 39 = ti 39 := by kernel_rfl
theorem ti41 : tiOf Try.prog 41 = ti 41 := by kernel_rfl
theorem ti42 : tiOf Try.prog 42 = ti 42 := by kernel_rfl
theorem ti43 : tiOf Try.prog 43 = ti 43 := by kernel_rfl
theorem ti44 : tiOf Try.prog 44 = ti 44 := by kernel_rfl
theorem ti45 : tiOf Try.prog 45 = ti 45 := by kernel_rfl
theorem ti46 : tiOf Try.prog 46 = ti 46 := by kernel_rfl
theorem ti47 : tiOf Try.prog 47 = ti 47 := by kernel_rfl
theorem ti48 : tiOf Try.prog 48 = ti 48 := by kernel_rfl
theorem ti49 : tiOf Try.prog 49 = ti 49 := by kernel_rfl
theorem ti50 : tiOf Try.prog 50 = ti 50 := by kernel_rfl
theorem ti51 : tiOf Try.prog 51 = ti 51 := by kernel_rfl
theorem ti52 : tiOf Try.prog 52 = ti 52 := by kernel_rfl
theorem ti53 : tiOf Try.prog 53 = ti 53 := by kernel_rfl
theorem ti54 : tiOf Try.prog 54 = ti 54 := by kernel_rfl
theorem ti55 : tiOf Try.prog 55 = ti 55 := by kernel_rfl
theorem ti56 : tiOf Try.prog 56 = ti 56 := by kernel_rfl
theorem ti57 : tiOf Try.prog 57 = ti 57 := by kernel_rfl
theorem ti58 : tiOf Try.prog 58 = ti 58 := by kernel_rfl
theorem ti60 : tiOf Try.prog 60 = ti 60 := by kernel_rfl
theorem ti61 : tiOf Try.prog 61 = ti 61 := by kernel_rfl
theorem ti62 : tiOf Try.prog 62 = ti 62 := by kernel_rfl
theorem ti63 : tiOf Try.prog 63 = ti 63 := by kernel_rfl
theorem ti64 : tiOf Try.prog 64 = ti 64 := by kernel_rfl
theorem ti65 : tiOf Try.prog 65 = ti 65 := by kernel_rfl
theorem ti66 : tiOf Try.prog 66 = ti 66 := by kernel_rfl
theorem ti67 : tiOf Try.prog 67 = ti 67 := by kernel_rfl
theorem ti68 : tiOf Try.prog 68 = ti 68 := by kernel_rfl
theorem ti69 : tiOf Try.prog 69 = ti 69 := by kernel_rfl
theorem ti70 : tiOf Try.prog 70 = ti 70 := by kernel_rfl
theorem ti71 : tiOf Try.prog 71 = ti 71 := by kernel_rfl
theorem ti72 : tiOf Try.prog 72 = ti 72 := by kernel_rfl
theorem ti73 : tiOf Try.prog 73 = ti 73 := by kernel_rfl
theorem ti74 : tiOf Try.prog 74 = ti 74 := by kernel_rfl
theorem ti75 : tiOf Try.prog 75 = ti 75 := by kernel_rfl
theorem ti76 : tiOf Try.prog 76 = ti 76 := by kernel_rfl
theorem ti77 : tiOf Try.prog 77 = ti 77 := by kernel_rfl
theorem ti78 : tiOf Try.prog 78 = ti 78 := by kernel_rfl
theorem ti79 : tiOf Try.prog 79 = ti 79 := by kernel_rfl
theorem ti80 : tiOf Try.prog 80 = ti 80 := by kernel_rfl
theorem ti81 : tiOf Try.prog 81 = ti 81 := by kernel_rfl
theorem ti82 : tiOf Try.prog 82 = ti 82 := by kernel_rfl
theorem ti83 : tiOf Try.prog 83 = ti 83 := by kernel_rfl
theorem ti84 : tiOf Try.prog 84 = ti 84 := by kernel_rfl
theorem ti85 : tiOf Try.prog 85 = ti 85 := by kernel_rfl
theorem ti86 : tiOf Try.prog 86 = ti 86 := by kernel_rfl
theorem ti87 : tiOf Try.prog 87 = ti 87 := by kernel_rfl
theorem ti88 : tiOf Try.prog 88 = ti 88 := by kernel_rfl
theorem ti89 : tiOf Try.prog 89 = ti 89 := by kernel_rfl
theorem ti90 : tiOf Try.prog 90 = ti 90 := by kernel_rfl
theorem ti91 : tiOf Try.prog 91 = ti 91 := by kernel_rfl
theorem ti92 : tiOf Try.prog 92 = ti 92 := by kernel_rfl
theorem ti93 : tiOf Try.prog 93 = ti 93 := by kernel_rfl
theorem ti94 : tiOf Try.prog 94 = ti 94 := by kernel_rfl
theorem ti95 : tiOf Try.prog 95 = ti 95 := by kernel_rfl
theorem ti96 : tiOf Try.prog 96 = ti 96 := by kernel_rfl
theorem ti97 : tiOf Try.prog 97 = ti 97 := by kernel_rfl
theorem ti98 : tiOf Try.prog 98 = ti 98 := by kernel_rfl
theorem ti99 : tiOf Try.prog 99 = ti 99 := by kernel_rfl
theorem ti100 : tiOf Try.prog 100 = ti 100 := by kernel_rfl
theorem ti101 : tiOf Try.prog 101 = ti 101 := by kernel_rfl
theorem ti102 : tiOf Try.prog 102 = ti 102 := by kernel_rfl
theorem ti103 : tiOf Try.prog 103 = ti 103 := by kernel_rfl
theorem ti104 : tiOf Try.prog 104 = ti 104 := by kernel_rfl
theorem ti105 : tiOf Try.prog 105 = ti 105 := by kernel_rfl
theorem ti106 : tiOf Try.prog 106 = ti 106 := by kernel_rfl
theorem ti107 : tiOf Try.prog 107 = ti 107 := by kernel_rfl
theorem ti108 : tiOf Try.prog 108 = ti 108 := by kernel_rfl
theorem ti109 : tiOf Try.prog 109 = ti 109 := by kernel_rfl
theorem tiok : ∀ t, ti t ≠ .no → tiOf Try.prog t = ti t := by
 intro t h
 unfold ti at h
 split at h
 ·exact ti1
 ·exact ti2
 ·exact ti3
 ·exact ti4
 ·exact ti5
 ·exact ti6
 ·exact ti7
 ·exact ti8
 ·exact ti9
 ·exact ti10
 ·exact ti11
 ·exact ti12
 ·exact ti13
 ·exact ti14
 ·exact ti15
 ·exact ti16
 ·exact ti17
 ·exact ti18
 ·exact ti19
 ·exact ti20
 ·exact ti21
 ·exact ti22
 ·exact ti23
 ·exact ti24
 ·exact ti25
 ·exact ti26
 ·exact ti27
 ·exact ti28
 ·exact ti29
 ·exact ti30
 ·exact ti31
 ·exact ti32
 ·exact ti34
 ·exact ti36
 ·exact ti37
 ·exact ti38
 ·exact ti39
 ·exact ti41
 ·exact ti42
 ·exact ti43
 ·exact ti44
 ·exact ti45
 ·exact ti46
 ·exact ti47
 ·exact ti48
 ·exact ti49
 ·exact ti50
 ·exact ti51
 ·exact ti52
 ·exact ti53
 ·exact ti54
 ·exact ti55
 ·exact ti56
 ·exact ti57
 ·exact ti58
 ·exact ti60
 ·exact ti61
 ·exact ti62
 ·exact ti63
 ·exact ti64
 ·exact ti65
 ·exact ti66
 ·exact ti67
 ·exact ti68
 ·exact ti69
 ·exact ti70
 ·exact ti71
 ·exact ti72
 ·exact ti73
 ·exact ti74
 ·exact ti75
 ·exact ti76
 ·exact ti77
 ·exact ti78
 ·exact ti79
 ·exact ti80
 ·exact ti81
 ·exact ti82
 ·exact ti83
 ·exact ti84
 ·exact ti85
 ·exact ti86
 ·exact ti87
 ·exact ti88
 ·exact ti89
 ·exact ti90
 ·exact ti91
 ·exact ti92
 ·exact ti93
 ·exact ti94
 ·exact ti95
 ·exact ti96
 ·exact ti97
 ·exact ti98
 ·exact ti99
 ·exact ti100
 ·exact ti101
 ·exact ti102
 ·exact ti103
 ·exact ti104
 ·exact ti105
 ·exact ti106
 ·exact ti107
 ·exact ti108
 ·exact ti109
 ·exact absurd rfl h
def ki : Nat → Option IntKind
 | 2 => some .i64
 | 3 => some .i64
 | 5 => some .u8
 | 6 => some .u8
 | 12 => some .u64
 | 21 => some .i32
 | 32 => some .i64
 | 100 => some .u32
 | 101 => some .u8
 | 102 => some .u8
 | 105 => some .i32
 | 106 => some .i32
 | _ => none
end
section
open Go.RowKit
inductive D where
 | val (v : Value)
 | list (s : Nat) (l : List (List D))
 | agg (l : List D)
 | tup (l : List D)
 | err
 | ifc (t : TypeId) (x : D)
inductive V where
 | und
 | d (x : D)
 | ep (l : List D) (o : Nat)
 | box (i o : Nat)
 | sl (i o n : Nat)
 | mp (i : Nat)
 | row (i k : Nat)
 | agg (l : List V)
 | clo (f : Fn) (l : List V)
 | mv (f : Fn) (l : List V)
 | tup (l : List V)
inductive O where
 | box (T : TypeId) (l : List V)
 | row (e : TypeId) (s k : Nat) (l : List (List D))
 | map (T : TypeId) (clock : Nat) (l : List (Nat × Value × D))
 | vec (e : TypeId) (s k : Nat) (l : List (List D))
 | byt (e : TypeId) (k : Nat) (l : List Value)
 | iter (v : V) (since : Nat) (seen : List Nat) (c0 : Nat)
abbrev D.int (n : Int) : D := .val (.int .i64 n)
abbrev D.bool (b : Bool) : D := .val (.bool b)
abbrev D.str (s : ByteArray) : D := .val (.string s)
abbrev Prot := Nat → Nat → Prop
abbrev Slots := List (Nat × V)
abbrev Objs := List (Nat × O)
def look : Slots → Nat → V
 | [], _ => .und
 | (j, v) :: r, i => bif Nat.beq i j then v else look r i
def find : Objs → Nat → Option O
 | [], _ => none
 | (j, v) :: r, i => bif Nat.beq i j then some v else find r i
theorem nbeq_ne {i j : Nat} (h : i ≠ j) : Nat.beq i j = false := by
 cases hb : Nat.beq i j
 ·rfl
 ·exact absurd (Nat.eq_of_beq_eq_true hb) h
theorem look_eq (i : Nat) (v : V) (r : Slots) : look ((i, v) :: r) i = v := by simp [look]
theorem look_ne {i j : Nat} (h : i ≠ j) (v : V) (r : Slots) : look ((j, v) :: r) i = look r i := by simp [look, nbeq_ne h]
theorem find_eq (i : Nat) (v : O) (r : Objs) : find ((i, v) :: r) i = some v := by simp [find]
theorem find_ne {i j : Nat} (h : i ≠ j) (v : O) (r : Objs) : find ((j, v) :: r) i = find r i := by simp [find, nbeq_ne h]
mutual
def V.has (i : Nat) : V → Bool
 | .box j _ => Nat.beq i j
 | .sl j _ _ => Nat.beq i j
 | .mp j => Nat.beq i j
 | .row j _ => Nat.beq i j
 | .agg l => V.hasL i l
 | .clo _ l => V.hasL i l
 | .mv _ l => V.hasL i l
 | .tup l => V.hasL i l
 | _ => false
def V.hasL (i : Nat) : List V → Bool
 | [] => false
 | v :: l => v.has i || V.hasL i l
end
def O.has (i : Nat) : O → Bool
 | .box _ l => V.hasL i l
 | .row .. => false
 | .map .. => false
 | .vec .. => false
 | .byt .. => false
 | .iter v _ _ _ => v.has i
def noneOf (i : Nat) (s : Slots) (o : Objs) : Bool := s.all (fun p => !p.2.has i) && o.all fun p => !p.2.has i
inductive RepD (w : World) (Pr : Prot) : Value → D → Prop where
 | val (v : Value) : RepD w Pr v (.val v)
 | nil (A : Option Addr) (c s : Nat) (hm : c ≤ maxLen) : RepD w Pr (.slice A 0 c) (.list s [])
 | list (b o n c s : Nat) (l : List (List D)) (u : Nat → Nat → Value) (hn : l.length = n) (hs : ∀ e ∈ l, e.length = s) (hc : n ≤ c) (hm : c ≤ maxLen)
   (hr : ∀ (i j : Nat) (e : List D) (d : D), l[i]? = some e → e[j]? = some d → w.cell? ⟨b, o + i * s + j, none⟩ = some (u i j) ∧ Pr b (o + i * s + j))
   (hd : ∀ (i j : Nat) (e : List D) (d : D), l[i]? = some e → e[j]? = some d → RepD w Pr (u i j) d) : RepD w Pr (.slice (some ⟨b, o, none⟩) n c) (.list s l)
 | agg (cs : List Value) (l : List D) (hl : cs.length = l.length) (hd : ∀ (i : Nat) (v : Value) (d : D), cs[i]? = some v → l[i]? = some d → RepD w Pr v d) : RepD w Pr (.agg cs.toArray) (.agg l)
 | tup (cs : List Value) (l : List D) (hl : cs.length = l.length) (hd : ∀ (i : Nat) (v : Value) (d : D), cs[i]? = some v → l[i]? = some d → RepD w Pr v d) : RepD w Pr (.tuple cs.toArray) (.tup l)
 | err (t : TypeId) (u : Value) : RepD w Pr (.iface t u) .err
 | ifc (t : TypeId) (u : Value) (x : D) (h : RepD w Pr u x) : RepD w Pr (.iface t u) (.ifc t x)
inductive RepV (w : World) (Pr : Prot) (β : Nat → Value) (κ : Nat → Nat) : Value → V → Prop where
 | und (v : Value) : RepV w Pr β κ v .und
 | d (v : Value) (x : D) (h : RepD w Pr v x) : RepV w Pr β κ v (.d x)
 | ep (b p o : Nat) (l : List D) (u : Nat → Value) (hr : ∀ (j : Nat) (d : D), l[j]? = some d → w.cell? ⟨b, p + j, none⟩ = some (u j) ∧ Pr b (p + j) ∧ RepD w Pr (u j) d) :
   RepV w Pr β κ (.pointer (some ⟨b, p + o, none⟩)) (.ep l o)
 | box (i o g : Nat) (h : β i = .pointer (some ⟨g, 0, none⟩)) : RepV w Pr β κ (.pointer (some ⟨g, o, none⟩)) (.box i o)
 | sl (i o n c g : Nat) (h : β i = .pointer (some ⟨g, 0, none⟩)) (hc : n ≤ c) (hm : c ≤ maxLen) (hz : κ i ≠ 0 → o = 0 → c = κ i) : RepV w Pr β κ (.slice (some ⟨g, o, none⟩) n c) (.sl i o n)
 | mp (i g : Nat) (h : β i = .map (some g)) : RepV w Pr β κ (.map (some g)) (.mp i)
 | row (i k : Nat) (v : Value) (hs : ∃ A n c, v = .slice A n c) (hk : k ≤ κ i) (h : k = κ i → v = β i) : RepV w Pr β κ v (.row i k)
 | agg (cs : List Value) (l : List V) (hl : cs.length = l.length) (hd : ∀ (i : Nat) (v : Value) (d : V), cs[i]? = some v → l[i]? = some d → RepV w Pr β κ v d) : RepV w Pr β κ (.agg cs.toArray) (.agg l)
 | clo (f : Fn) (cs : List Value) (l : List V) (hl : cs.length = l.length) (hd : ∀ (i : Nat) (v : Value) (d : V), cs[i]? = some v → l[i]? = some d → RepV w Pr β κ v d) : RepV w Pr β κ (.func f #[] cs.toArray) (.clo f l)
 | mv (f : Fn) (cs : List Value) (l : List V) (hl : cs.length = l.length) (hd : ∀ (i : Nat) (v : Value) (d : V), cs[i]? = some v → l[i]? = some d → RepV w Pr β κ v d) : RepV w Pr β κ (.func f cs.toArray #[]) (.mv f l)
 | tup (cs : List Value) (l : List V) (hl : cs.length = l.length) (hd : ∀ (i : Nat) (v : Value) (d : V), cs[i]? = some v → l[i]? = some d → RepV w Pr β κ v d) : RepV w Pr β κ (.tuple cs.toArray) (.tup l)
def KeyOk (T : TypeId) (v : Value) : Prop := ∃ kt et lit, Try.prog.underlying T = some (.map kt et) ∧ keyOf Try.prog kt v = some lit
structure MapOk (T : TypeId) (clock : Nat) (l : List (Nat × Value × D)) : Prop where
 nodup : (l.map (·.1)).Nodup
 lt : ∀ q ∈ l, q.1 < clock
 keys : (l.map (·.2.1)).Nodup
 ok : ∀ q ∈ l, KeyOk T q.2.1
def RepO (w : World) (Pr : Prot) (B : Nat) (β : Nat → Value) (κ : Nat → Nat) (i : Nat) : O → Prop
 | .box T l => ∃ (g : Nat) (cs : List Value), β i = .pointer (some ⟨g, 0, none⟩) ∧ B ≤ g ∧ w.heap[g]? = some (.cells cs.toArray T (0, 0)) ∧ cs.length = l.length ∧
   (∀ (j : Nat) (v : Value) (x : V), cs[j]? = some v → l[j]? = some x → RepV w Pr β κ v x) ∧ ∀ o, ¬ Pr g o
 | .row e s k l => κ i = k ∧ ∃ xs, w.ownsRow B e s (β i) l.length xs ∧ (∀ x ∈ l, x.length = s) ∧
   (∀ (p j : Nat) (x : List D) (d : D), l[p]? = some x → x[j]? = some d → ∃ u, xs[p * s + j]? = some u ∧ RepD w Pr u d) ∧
   ∀ g, (β i).ownBlock = some g → ∀ o, Pr g o ↔ o < l.length * s
 | .map T clock l => ∃ (g : Nat) (es : List MapEntry), β i = .map (some g) ∧ B ≤ g ∧ w.heap[g]? = some (.map es.toArray clock) ∧ (es.map (fun x => (x.born, x.key)) = l.map (fun q => (q.1, q.2.1)) ∧ MapOk T clock l) ∧
   (∀ (j : Nat) (x : MapEntry) (q : Nat × Value × D), es[j]? = some x → l[j]? = some q → RepD w Pr x.val q.2.2) ∧ ∀ o, ¬ Pr g o
 | .vec e s k l => κ i = k ∧ ∃ xs, w.ownsRow B e s (β i) l.length xs ∧ (∀ x ∈ l, x.length = s) ∧
   (∀ (p j : Nat) (x : List D) (d : D), l[p]? = some x → x[j]? = some d → ∃ u, xs[p * s + j]? = some u ∧ RepD w Pr u d) ∧
   ∀ g, (β i).ownBlock = some g → ∀ o, ¬ Pr g o
 | .byt e k l => κ i = k ∧ ∃ (g cap : Nat) (cur : Array Value) (fz : Nat × Nat), β i = .slice (some ⟨g, 0, none⟩) l.length cap ∧ B ≤ g ∧ w.heap[g]? = some (.cells cur e fz) ∧ (fz = (0, 0) ∨ cap ≤ fz.1) ∧ (l.length ≤ cap ∧ cap ≤ maxLen ∧ cur.size = cap ∧ cur.toList.take l.length = l) ∧ ∀ o, ¬ Pr g o
 | .iter v since seen c0 => ∃ g gm : Nat, β i = .pointer (some ⟨g, 0, none⟩) ∧ B ≤ g ∧ w.heap[g]? = some (.mapIter (some gm) since seen.toArray c0) ∧ RepV w Pr β κ (.map (some gm)) v ∧ ∀ o, ¬ Pr g o
def blk : Value → Option Nat
 | .pointer (some a) => some a.block
 | .slice (some a) _ _ => some a.block
 | .map r => r
 | _ => none
structure Entry where
 w : World
 pr : Prot
 n : Nat
 ob0 : Objs
 β0 : Nat → Value
 κ0 : Nat → Nat
 df : List Deferred
def Lent (ob : Objs) (β : Nat → Value) (g : Nat) : Prop := ∃ i o, find ob i = some o ∧ blk (β i) = some g
theorem lent_nil {β : Nat → Value} {g : Nat} : ¬ Lent [] β g := fun ⟨_, _, h, _⟩ => by simp [find] at h
structure Under (L : Nat → Prop) (w w' : World) : Prop where
 os : w'.os = w.os
 tape : w'.tape = w.tape
 output : w'.output = w.output
 size : w.heap.size ≤ w'.heap.size
 block : ∀ k, k < w.heap.size → ¬ L k → w'.heap[k]? = w.heap[k]?
theorem Under.refl (L : Nat → Prop) (w : World) : Under L w w := ⟨rfl, rfl, rfl, Nat.le_refl _, fun _ _ _ => rfl⟩
theorem Under.trans {L : Nat → Prop} {a b c : World} (h : Under L a b) (k : Under L b c) : Under L a c :=
 ⟨k.os.trans h.os, k.tape.trans h.tape, k.output.trans h.output, Nat.le_trans h.size k.size, fun i hi hn => (k.block i (Nat.lt_of_lt_of_le hi h.size) hn).trans (h.block i hi hn)⟩
theorem Under.then {L M : Nat → Prop} {a b c : World} (h : Under L a b) (k : Under M b c) (hM : ∀ g, M g → L g ∨ a.heap.size ≤ g) : Under L a c :=
 ⟨k.os.trans h.os, k.tape.trans h.tape, k.output.trans h.output, Nat.le_trans h.size k.size, fun i hi hn => (k.block i (Nat.lt_of_lt_of_le hi h.size) (fun hm => (hM i hm).elim hn (fun h1 => by omega))).trans (h.block i hi hn)⟩
theorem Under.of_below (L : Nat → Prop) {w w' : World} (h : Below w.heap.size w w') : Under L w w' := ⟨h.os, h.tape, h.output, h.size, fun k hk _ => h.block k hk⟩
theorem Under.below {w w' : World} {β : Nat → Value} (h : Under (Lent [] β) w w') : Below w.heap.size w w' := ⟨h.os, h.tape, h.output, h.size, fun k hk => h.block k hk lent_nil⟩
def Stays (Pr : Prot) (w w' : World) : Prop := ∀ b o, Pr b o → w'.cell? ⟨b, o, none⟩ = w.cell? ⟨b, o, none⟩
structure Good (E : Entry) (sl : Slots) (ob : Objs) (a : Act) (w : World) (Pr : Prot) (β : Nat → Value) (κ : Nat → Nat) : Prop where
 below : Under (Lent E.ob0 E.β0) E.w w
 st0 : Stays E.pr E.w w
 pr0 : ∀ b o, E.pr b o → Pr b o
 prn : ∀ b o, Pr b o → E.pr b o ∨ E.w.heap.size ≤ b ∨ Lent E.ob0 E.β0 b
 prl : ∀ b o, Pr b o → b < w.heap.size
 size : a.tmps.size = E.n
 defers : a.defers = E.df
 slots : ∀ i, RepV w Pr β κ (a.tmps.getD i undef) (look sl i)
 objs : ∀ i o, find ob i = some o → RepO w Pr 0 β κ i o
 apart : ∀ i j oi oj g, find ob i = some oi → find ob j = some oj → blk (β i) = some g → blk (β j) = some g → i = j
 own : ∀ i o g, find ob i = some o → blk (β i) = some g → Lent E.ob0 E.β0 g ∨ E.w.heap.size ≤ g
 keeps : ∀ i o, find E.ob0 i = some o → (β i = E.β0 i ∧ κ i = E.κ0 i) ∨ (E.κ0 i < κ i ∧ ∃ A n c, E.β0 i = .slice A n c)
 fresh : ∀ i o, find E.ob0 i = some o → E.n ≤ i
def Inv (E : Entry) (sl : Slots) (ob : Objs) (a : Act) (w : World) : Prop := ∃ Pr β κ, Good E sl ob a w Pr β κ
section
variable {w w' : World} {Pr Pr' : Prot} {β β' : Nat → Value} {κ κ' : Nat → Nat}
theorem RepD.keep {v : Value} {d : D} (h : RepD w Pr v d) (hs : Stays Pr w w') (hp : ∀ b o, Pr b o → Pr' b o) : RepD w' Pr' v d := by
 induction h with
 | val v => exact .val v
 | nil A c s hm => exact .nil A c s hm
 | list b o n c s l u hn hss hc hm hr hd ih =>
  exact .list b o n c s l u hn hss hc hm (fun i j e d h1 h2 => ⟨(hs _ _ (hr i j e d h1 h2).2).trans (hr i j e d h1 h2).1, hp _ _ (hr i j e d h1 h2).2⟩) ih
 | agg cs l hl hd ih => exact .agg cs l hl ih
 | tup cs l hl hd ih => exact .tup cs l hl ih
 | err t u => exact .err t u
 | ifc t u x h ih => exact .ifc t u x ih
theorem RepV.keep {v : Value} {x : V} (h : RepV w Pr β κ v x) (hs : Stays Pr w w') (hp : ∀ b o, Pr b o → Pr' b o) : RepV w' Pr' β κ v x := by
 induction h with
 | und v => exact .und v
 | d v x h => exact .d v x (h.keep hs hp)
 | ep b p o l u hr => exact .ep b p o l u (fun j d hj => ⟨(hs _ _ (hr j d hj).2.1).trans (hr j d hj).1, hp _ _ (hr j d hj).2.1, (hr j d hj).2.2.keep hs hp⟩)
 | box i o g h => exact .box i o g h
 | sl i o n c g h hc hm hz => exact .sl i o n c g h hc hm hz
 | mp i g h => exact .mp i g h
 | row i k v hs hk h => exact .row i k v hs hk h
 | agg cs l hl hd ih => exact .agg cs l hl ih
 | clo f cs l hl hd ih => exact .clo f cs l hl ih
 | mv f cs l hl hd ih => exact .mv f cs l hl ih
 | tup cs l hl hd ih => exact .tup cs l hl ih
theorem RepV.d_inv {v : Value} {x : D} (h : RepV w Pr β κ v (.d x)) : RepD w Pr v x := by
 cases h with
 | d _ _ h => exact h
theorem RepV.val_inv {v u : Value} (h : RepV w Pr β κ v (.d (.val u))) : v = u := by
 cases h.d_inv
 rfl
theorem RepV.row_inv {v : Value} {i k : Nat} (h : RepV w Pr β κ v (.row i k)) (hk : k = κ i) : v = β i := by
 cases h with
 | row _ _ _ _ _ hv => exact hv hk
theorem hasL_mem {i : Nat} {l : List V} {j : Nat} {x : V} (h : V.hasL i l = false) (hx : l[j]? = some x) : x.has i = false := by
 induction l generalizing j with
 | nil => simp at hx
 | cons y l ih =>
  simp only [V.hasL, Bool.or_eq_false_iff] at h
  cases j with
  | zero => simp at hx; exact hx ▸ h.1
  | succ j => exact ih h.2 (by simpa using hx)
theorem RepV.other {v : Value} {x : V} {i : Nat} (h : RepV w Pr β κ v x) (hx : x.has i = false) (hβ : ∀ j, j ≠ i → β' j = β j) (hκ : ∀ j, j ≠ i → κ' j = κ j) : RepV w Pr β' κ' v x := by
 induction h with
 | und v => exact .und v
 | d v x h => exact .d v x h
 | ep b p o l u hr => exact .ep b p o l u hr
 | box j o g h =>
  simp only [V.has] at hx
  exact .box j o g ((hβ j (by rintro rfl; simp at hx)).trans h)
 | sl j o n c g h hc hm hz =>
  simp only [V.has] at hx
  have hne : j ≠ i := by rintro rfl; simp at hx
  exact .sl j o n c g ((hβ j hne).trans h) hc hm (by rw [hκ j hne]; exact hz)
 | mp j g h =>
  simp only [V.has] at hx
  exact .mp j g ((hβ j (by rintro rfl; simp at hx)).trans h)
 | row j k v hs hk h =>
  simp only [V.has] at hx
  have hne : j ≠ i := by rintro rfl; simp at hx
  exact .row j k v hs (by rw [hκ j hne]; exact hk) (fun e => (h (by rw [← hκ j hne]; exact e)).trans (hβ j hne).symm)
 | agg cs l hl hd ih =>
  simp only [V.has] at hx
  exact .agg cs l hl (fun j v d h1 h2 => ih j v d h1 h2 (hasL_mem hx h2))
 | clo f cs l hl hd ih =>
  simp only [V.has] at hx
  exact .clo f cs l hl (fun j v d h1 h2 => ih j v d h1 h2 (hasL_mem hx h2))
 | mv f cs l hl hd ih =>
  simp only [V.has] at hx
  exact .mv f cs l hl (fun j v d h1 h2 => ih j v d h1 h2 (hasL_mem hx h2))
 | tup cs l hl hd ih =>
  simp only [V.has] at hx
  exact .tup cs l hl (fun j v d h1 h2 => ih j v d h1 h2 (hasL_mem hx h2))
theorem RepV.chg {v : Value} {x : V} (h : RepV w Pr β κ v x) (hx : ∀ i, x.has i = true → (β' i = β i ∧ κ' i = κ i) ∨ (κ i < κ' i ∧ ∃ A n c, β i = .slice A n c)) : RepV w Pr β' κ' v x := by
 have mem : ∀ {l : List V} {j : Nat} {x : V} {i : Nat}, l[j]? = some x → x.has i = true → V.hasL i l = true := by
  intro l j x i h1 h2
  cases h3 : V.hasL i l with
  | true => rfl
  | false => rw [hasL_mem h3 h1] at h2; cases h2
 induction h with
 | und v => exact .und v
 | d v x h => exact .d v x h
 | ep b p o l u hr => exact .ep b p o l u hr
 | box i o g h =>
  rcases hx i (by simp [V.has]) with ⟨h1, _⟩ | ⟨_, A, n, c, h1⟩
  ·exact .box i o g (h1.trans h)
  ·rw [h] at h1; cases h1
 | sl i o n c g h hc hm hz =>
  rcases hx i (by simp [V.has]) with ⟨h1, h2⟩ | ⟨_, A, n, c, h1⟩
  ·exact .sl i o _ _ g (h1.trans h) hc hm (by rw [h2]; exact hz)
  ·rw [h] at h1; cases h1
 | mp i g h =>
  rcases hx i (by simp [V.has]) with ⟨h1, _⟩ | ⟨_, A, n, c, h1⟩
  ·exact .mp i g (h1.trans h)
  ·rw [h] at h1; cases h1
 | row i k v hs hk h =>
  rcases hx i (by simp [V.has]) with ⟨h1, h2⟩ | ⟨h1, _⟩
  ·exact .row i k v hs (by omega) (fun e => (h (by omega)).trans h1.symm)
  ·exact .row i k v hs (by omega) (fun e => by omega)
 | agg cs l hl hd ih => exact .agg cs l hl (fun j v d h1 h2 => ih j v d h1 h2 (fun i hi => hx i (by simp only [V.has]; exact mem h2 hi)))
 | clo f cs l hl hd ih => exact .clo f cs l hl (fun j v d h1 h2 => ih j v d h1 h2 (fun i hi => hx i (by simp only [V.has]; exact mem h2 hi)))
 | mv f cs l hl hd ih => exact .mv f cs l hl (fun j v d h1 h2 => ih j v d h1 h2 (fun i hi => hx i (by simp only [V.has]; exact mem h2 hi)))
 | tup cs l hl hd ih => exact .tup cs l hl (fun j v d h1 h2 => ih j v d h1 h2 (fun i hi => hx i (by simp only [V.has]; exact mem h2 hi)))
theorem RepV.newer {v : Value} {x : V} {i : Nat} (h : RepV w Pr β κ v x) (hβ : ∀ j, j ≠ i → β' j = β j) (hκ : ∀ j, j ≠ i → κ' j = κ j) (hi : κ i < κ' i) (hb : ∃ A n c, β i = .slice A n c) : RepV w Pr β' κ' v x := by
 induction h with
 | und v => exact .und v
 | d v x h => exact .d v x h
 | ep b p o l u hr => exact .ep b p o l u hr
 | box j o g h => exact .box j o g ((hβ j (by rintro rfl; obtain ⟨_, _, _, e⟩ := hb; rw [h] at e; cases e)).trans h)
 | sl j o n c g h hc hm hz =>
  have hne : j ≠ i := by rintro rfl; obtain ⟨_, _, _, e⟩ := hb; rw [h] at e; cases e
  exact .sl j o n c g ((hβ j hne).trans h) hc hm (by rw [hκ j hne]; exact hz)
 | mp j g h => exact .mp j g ((hβ j (by rintro rfl; obtain ⟨_, _, _, e⟩ := hb; rw [h] at e; cases e)).trans h)
 | row j k v hs hk h =>
  by_cases hj : j = i
  ·subst hj
   exact .row j k v hs (by omega) (fun e => by omega)
  ·exact .row j k v hs (by rw [hκ j hj]; exact hk) (fun e => (h (by rw [← hκ j hj]; exact e)).trans (hβ j hj).symm)
 | agg cs l hl hd ih => exact .agg cs l hl ih
 | clo f cs l hl hd ih => exact .clo f cs l hl ih
 | mv f cs l hl hd ih => exact .mv f cs l hl ih
 | tup cs l hl hd ih => exact .tup cs l hl ih
theorem ownsRow_same {B n s : Nat} {e : TypeId} {v : Value} {xs : List Value} (h : w.ownsRow B e s v n xs) (hk : ∀ g, v.ownBlock = some g → w'.heap[g]? = w.heap[g]?) : w'.ownsRow B e s v n xs := by
 refine ⟨h.1, ?_⟩
 rcases h.2 with h0 | ⟨g, cap, cur, rfl, k1, k2, k3⟩
 ·exact .inl h0
 ·exact .inr ⟨g, cap, cur, rfl, k1, (hk g rfl).trans k2, k3⟩
theorem RepO.blkLt {B i : Nat} {o : O} (h : RepO w Pr B β κ i o) : ∀ g, blk (β i) = some g → B ≤ g ∧ g < w.heap.size := by
 intro g hg
 cases o with
 | box T l =>
  obtain ⟨g', cs, hb, hB, hh, _⟩ := h
  rw [hb] at hg
  simp only [blk, Option.some.injEq] at hg
  subst hg
  exact ⟨hB, (Array.getElem?_eq_some_iff.1 hh).1⟩
 | row e s k l =>
  obtain ⟨_, xs, hown, _⟩ := h
  refine hown.lt g ?_
  rcases hown.2 with ⟨h0, _⟩ | ⟨g', cap, cur, h0, _⟩
  ·rw [h0] at hg; simp [blk] at hg
  ·rw [h0] at hg ⊢
   simpa [blk, Value.ownBlock] using hg
 | vec e s k l =>
  obtain ⟨_, xs, hown, _⟩ := h
  refine hown.lt g ?_
  rcases hown.2 with ⟨h0, _⟩ | ⟨g', cap, cur, h0, _⟩
  ·rw [h0] at hg; simp [blk] at hg
  ·rw [h0] at hg ⊢
   simpa [blk, Value.ownBlock] using hg
 | byt e k l =>
  obtain ⟨_, g', cap, cur, fz, hb, hB, hh, _⟩ := h
  rw [hb] at hg
  simp only [blk, Option.some.injEq] at hg
  subst hg
  exact ⟨hB, (Array.getElem?_eq_some_iff.1 hh).1⟩
 | map T c l =>
  obtain ⟨g', es, hb, hB, hh, _⟩ := h
  rw [hb] at hg
  simp only [blk, Option.some.injEq] at hg
  subst hg
  exact ⟨hB, (Array.getElem?_eq_some_iff.1 hh).1⟩
 | iter v s n c =>
  obtain ⟨g', gm, hb, hB, hh, _⟩ := h
  rw [hb] at hg
  simp only [blk, Option.some.injEq] at hg
  subst hg
  exact ⟨hB, (Array.getElem?_eq_some_iff.1 hh).1⟩
theorem RepO.keep2 {B i : Nat} {o : O} (h : RepO w Pr B β κ i o) (hs : Stays Pr w w') (hp : ∀ b o, Pr b o → Pr' b o) (hn : ∀ g, blk (β i) = some g → ∀ o, Pr' g o → Pr g o)
  (hk : ∀ g, blk (β i) = some g → w'.heap[g]? = w.heap[g]?) : RepO w' Pr' B β κ i o := by
 cases o with
 | box T l =>
  obtain ⟨g, cs, hb, hB, hh, hl, hv, hno⟩ := h
  exact ⟨g, cs, hb, hB, (hk g (by rw [hb]; rfl)).trans hh, hl, fun j v x h1 h2 => (hv j v x h1 h2).keep hs hp, fun o ho => hno o (hn g (by rw [hb]; rfl) o ho)⟩
 | row e s k l =>
  obtain ⟨h1, xs, hown, hls, hd, hpr⟩ := h
  have hb : ∀ g, (β i).ownBlock = some g → blk (β i) = some g := by
   intro g hg
   cases hv : β i with
   | slice A n c => rw [hv] at hg; cases A with | none => simp [Value.ownBlock] at hg | some a => simpa [Value.ownBlock, blk] using hg
   | _ => rw [hv] at hg; simp [Value.ownBlock] at hg
  refine ⟨h1, xs, ownsRow_same hown (fun g hg => hk g (hb g hg)), hls, fun p j x d h1 h2 => ?_, fun g hg o => ⟨fun ho => (hpr g hg o).1 (hn g (hb g hg) o ho), fun ho => hp _ _ ((hpr g hg o).2 ho)⟩⟩
  obtain ⟨u, hu, hr⟩ := hd p j x d h1 h2
  exact ⟨u, hu, hr.keep hs hp⟩
 | vec e s k l =>
  obtain ⟨h1, xs, hown, hls, hd, hpr⟩ := h
  have hb : ∀ g, (β i).ownBlock = some g → blk (β i) = some g := by
   intro g hg
   cases hv : β i with
   | slice A n c => rw [hv] at hg; cases A with | none => simp [Value.ownBlock] at hg | some a => simpa [Value.ownBlock, blk] using hg
   | _ => rw [hv] at hg; simp [Value.ownBlock] at hg
  refine ⟨h1, xs, ownsRow_same hown (fun g hg => hk g (hb g hg)), hls, fun p j x d h1 h2 => ?_, fun g hg o ho => hpr g hg o (hn g (hb g hg) o ho)⟩
  obtain ⟨u, hu, hr⟩ := hd p j x d h1 h2
  exact ⟨u, hu, hr.keep hs hp⟩
 | byt e k l =>
  obtain ⟨h1, g, cap, cur, fz, hb, hB, hh, hf, hc, hno⟩ := h
  exact ⟨h1, g, cap, cur, fz, hb, hB, (hk g (by rw [hb]; rfl)).trans hh, hf, hc, fun o ho => hno o (hn g (by rw [hb]; rfl) o ho)⟩
 | map T c l =>
  obtain ⟨g, es, hb, hB, hh, hl, hv, hno⟩ := h
  exact ⟨g, es, hb, hB, (hk g (by rw [hb]; rfl)).trans hh, hl, fun j x q h1 h2 => (hv j x q h1 h2).keep hs hp, fun o ho => hno o (hn g (by rw [hb]; rfl) o ho)⟩
 | iter v s n c =>
  obtain ⟨g, gm, hb, hB, hh, hv, hno⟩ := h
  exact ⟨g, gm, hb, hB, (hk g (by rw [hb]; rfl)).trans hh, hv.keep hs hp, fun o ho => hno o (hn g (by rw [hb]; rfl) o ho)⟩
theorem RepO.keep {B i : Nat} {o : O} (h : RepO w Pr B β κ i o) (hs : Stays Pr w w') (hp : ∀ b o, Pr b o → Pr' b o) (hn : ∀ b o, Pr' b o → Pr b o ∨ w.heap.size ≤ b)
  (hk : ∀ g, blk (β i) = some g → w'.heap[g]? = w.heap[g]?) : RepO w' Pr' B β κ i o := by
 have hlt := h.blkLt
 exact h.keep2 hs hp (fun g hg o ho => (hn g o ho).elim id fun h1 => by have := (hlt g hg).2; omega) hk
end
section
variable {E : Entry} {sl sl' : Slots} {ob ob' : Objs} {a : Act} {w w' : World} {Pr Pr' : Prot} {β : Nat → Value} {κ : Nat → Nat}
theorem stays_below (h : Good E sl ob a w Pr β κ) (hx : Below w.heap.size w w') : Stays Pr w w' := fun b _ hp => hx.cell (p := ⟨b, _, none⟩) (h.prl b _ hp)
theorem Good.grow (h : Good E sl ob a w Pr β κ) (hx : Below w.heap.size w w') (hp : ∀ b o, Pr b o → Pr' b o) (hn : ∀ b o, Pr' b o → Pr b o ∨ (w.heap.size ≤ b ∧ b < w'.heap.size)) : Good E sl ob a w' Pr' β κ := by
 have hs := stays_below h hx
 have hE := h.below.size
 refine ⟨h.below.trans (.of_below _ hx), fun b o ho => (hs b o (h.pr0 b o ho)).trans (h.st0 b o ho), fun b o ho => hp b o (h.pr0 b o ho), fun b o ho => ?_, fun b o ho => ?_, h.size, h.defers, fun i => (h.slots i).keep hs hp, fun i o ho => ?_, h.apart, h.own, h.keeps, h.fresh⟩
 ·rcases hn b o ho with h1 | h1
  ·exact h.prn b o h1
  ·exact .inr (.inl (by omega))
 ·rcases hn b o ho with h1 | h1
  ·have := h.prl b o h1
   have := hx.size
   omega
  ·exact h1.2
 ·exact (h.objs i o ho).keep hs hp (fun b o ho => (hn b o ho).imp id (·.1)) (fun g hg => hx.block g ((h.objs i o ho).blkLt g hg).2)
theorem Act.getD_put (a : Act) (d i : Nat) (v : Value) (hd : d < a.tmps.size) : (a.put (some d) v).tmps.getD i undef = if i = d then v else a.tmps.getD i undef := by
 simp only [Act.put, Array.getD_eq_getD_getElem?, Array.getElem?_setIfInBounds]
 by_cases h : i = d
 ·subst h; simp [hd]
 ·simp [h, Ne.symm h]
theorem Good.put (h : Good E sl ob a w Pr β κ) {d : Nat} (hd : d < E.n) {v : Value} {x : V} (hv : RepV w Pr β κ v x) : Good E ((d, x) :: sl) ob (a.put (some d) v) w Pr β κ := by
 refine ⟨h.below, h.st0, h.pr0, h.prn, h.prl, by simp [Act.put, h.size], by simp [Act.put, h.defers], fun i => ?_, h.objs, h.apart, h.own, h.keeps, h.fresh⟩
 rw [Act.getD_put a d i v (by rw [h.size]; exact hd)]
 by_cases hi : i = d
 ·subst hi
  rw [if_pos rfl, look_eq]
  exact hv
 ·rw [if_neg hi, look_ne hi]
  exact h.slots i
theorem Good.less (h : Good E sl ob a w Pr β κ) (hs : ∀ p ∈ sl', look sl p.1 = p.2) (ho : ∀ p ∈ ob', find ob p.1 = some p.2) : Good E sl' ob' a w Pr β κ := by
 have hl : ∀ (l : Slots), (∀ p ∈ l, look sl p.1 = p.2) → ∀ i, look l i = .und ∨ look l i = look sl i := by
  intro l hl i
  induction l with
  | nil => exact .inl rfl
  | cons p l ih =>
   obtain ⟨j, v⟩ := p
   by_cases hi : i = j
   ·subst hi
    rw [look_eq]
    exact .inr (hl (i, v) (by simp)).symm
   ·rw [look_ne hi]
    exact ih (fun p hp => hl p (by simp [hp]))
 have hf : ∀ (l : Objs), (∀ p ∈ l, find ob p.1 = some p.2) → ∀ i x, find l i = some x → find ob i = some x := by
  intro l hl i x hx
  induction l with
  | nil => simp [find] at hx
  | cons p l ih =>
   obtain ⟨j, v⟩ := p
   by_cases hi : i = j
   ·subst hi
    rw [find_eq] at hx
    cases hx
    exact hl (i, _) (by simp)
   ·rw [find_ne hi] at hx
    exact ih (fun p hp => hl p (by simp [hp])) hx
 refine ⟨h.below, h.st0, h.pr0, h.prn, h.prl, h.size, h.defers, fun i => ?_, fun i o hio => h.objs i o (hf ob' ho i o hio), fun i j oi oj g h1 h2 => h.apart i j oi oj g (hf ob' ho i oi h1) (hf ob' ho j oj h2), fun i o g h1 => h.own i o g (hf ob' ho i o h1), h.keeps, h.fresh⟩
 rcases hl sl' hs i with h1 | h1
 ·rw [h1]; exact .und _
 ·rw [h1]; exact h.slots i
theorem Inv.less (h : Inv E sl ob a w) (hs : ∀ p ∈ sl', look sl p.1 = p.2) (ho : ∀ p ∈ ob', find ob p.1 = some p.2) : Inv E sl' ob' a w := by
 obtain ⟨Pr, β, κ, h⟩ := h
 exact ⟨Pr, β, κ, h.less hs ho⟩
end
end
section
open Go.RowKit
def ev (sl : Slots) : Operand → V
 | .tmp t => look sl t
 | .const v => .d (.val v)
 | .func f => .d (.val (.func (.func f) #[] #[]))
 | .global g => .d (.val (.pointer (some ⟨g, 0, none⟩)))
structure Kept (Pr : Prot) (β : Nat → Value) (ob : Objs) (w w' : World) : Prop where
 stays : Stays Pr w w'
 objs : ∀ i o g, find ob i = some o → blk (β i) = some g → w'.heap[g]? = w.heap[g]?
 size : w.heap.size ≤ w'.heap.size
theorem Kept.refl (Pr : Prot) (β : Nat → Value) (ob : Objs) (w : World) : Kept Pr β ob w w := ⟨fun _ _ _ => rfl, fun _ _ _ _ _ => rfl, Nat.le_refl _⟩
def Y (E : Entry) (o : Oper) (sl : Slots) (ob : Objs) (x : V) : Prop :=
 ∀ a w Pr β κ, Good E sl ob a w Pr β κ → ∃ v, RepV w Pr β κ v x ∧ ∀ w', Kept Pr β ob w w' → (execOp a.eval o).run Try.prog w' = .ok (.value v) w'
def Step (E : Entry) (o : Oper) (sl : Slots) (ob : Objs) (sl' : Slots) (ob' : Objs) : Prop :=
 ∀ a w, Inv E sl ob a w → ∀ (K : Act → World → Prop) (Q : Exit → Act → World → Prop), (∀ a' w', Inv E sl' ob' a' w' → K a' w') → o.wp Try.prog a w K Q
structure AL (E : Entry) (ops : Array Oper) (rest : List Oper) (Q : Exit → Act → World → Prop) (sl : Slots) (ob : Objs) : Prop where
 run : ∀ a w, Inv E sl ob a w → wpList Try.prog ops Q rest a w
structure AW (E : Entry) (c : Code) (Q : Exit → Act → World → Prop) (sl : Slots) (ob : Objs) : Prop where
 run : ∀ a w, Inv E sl ob a w → c.wp Try.prog Q a w
structure AQ (E : Entry) (e : Exit) (Q : Exit → Act → World → Prop) (sl : Slots) (ob : Objs) : Prop where
 run : ∀ a w, Inv E sl ob a w → Q e a w
section
variable {E : Entry} {sl sl' : Slots} {ob ob' : Objs} {ops : Array Oper} {rest : List Oper} {Q : Exit → Act → World → Prop} {o : Oper}
theorem Y.step {x : V} {d : Nat} (h : Y E o sl ob x) (ho : o.dst = some d) (hd : d < E.n) : Step E o sl ob ((d, x) :: sl) ob := by
 rintro a w ⟨Pr, β, κ, hg⟩ K Q hK
 obtain ⟨v, hv, hr⟩ := h a w Pr β κ hg
 unfold Oper.wp
 rw [hr w (.refl Pr β ob w), Oper.upon_value, ho]
 exact hK _ _ ⟨Pr, β, κ, hg.put hd hv⟩
theorem al_step (h : Step E o sl ob sl' ob') (hg : o.guard = none) (hK : AL E ops rest Q sl' ob') : AL E ops (o :: rest) Q sl ob :=
 ⟨fun a w hi => wpList_plain hg fun K hKK => h a w hi K Q fun a' w' hi' => hKK _ _ (hK.run a' w' hi')⟩
theorem al_y {x : V} {d : Nat} {op : Op} {t : TypeId} {p : String} {af : Array Edge} (h : Y E ⟨some d, op, t, p, af, none⟩ sl ob x) (hd : d < E.n) (hK : AL E ops rest Q ((d, x) :: sl) ob) :
  AL E ops (⟨some d, op, t, p, af, none⟩ :: rest) Q sl ob := al_step (h.step rfl hd) rfl hK
theorem wanted_of {a : Act} {w : World} {o : Oper} {j t : Nat} {want b : Bool} (hi : Inv E sl ob a w) (hg : o.guard = some (j, want)) (hj : (ops[j]?).bind (·.dst) = some t) (hb : look sl t = .d (.val (.bool b))) :
  Region.wanted o (yielded ops a.tmps) = (b == want) := by
 obtain ⟨Pr, β, κ, hgd⟩ := hi
 have h := hgd.slots t
 rw [hb] at h
 have hv : a.tmps.getD t undef = .bool b := h.val_inv
 have hget : a.tmps[t]? = some (.bool b) := by
  rw [Array.getD_eq_getD_getElem?] at hv
  cases hx : a.tmps[t]? with
  | none => rw [hx] at hv; simp [undef] at hv
  | some y => rw [hx] at hv; simpa using hv
 simp [Region.wanted, hg, yielded, hj, hget]
theorem unwanted_u {a : Act} {op : Op} {dd : Option Nat} {ty : TypeId} {p : String} {af : Array Edge} {j t : Nat} {want : Bool} (hj : (ops[j]?).bind (·.dst) = some t) (hv : a.tmps.getD t undef = undef) : Region.wanted ⟨dd, op, ty, p, af, some (j, want)⟩ (yielded ops a.tmps) = false := by
 rw [Array.getD_eq_getD_getElem?] at hv
 cases hx : a.tmps[t]? with
 | none => simp [Region.wanted, yielded, hj, hx]
 | some y =>
  rw [hx] at hv
  simp only [Option.getD_some] at hv
  subst hv
  simp [Region.wanted, yielded, hj, hx, undef]
theorem al_go {op : Op} {d : Option Nat} {ty : TypeId} {p : String} {af : Array Edge} {j t : Nat} {want b : Bool} (hj : (ops[j]?).bind (·.dst) = some t) (hb : look sl t = .d (.val (.bool b))) (hw : b = want)
  (h : AL E ops (⟨d, op, ty, p, af, none⟩ :: rest) Q sl ob) : AL E ops (⟨d, op, ty, p, af, some (j, want)⟩ :: rest) Q sl ob := by
 refine ⟨fun a w hi => ?_⟩
 have h1 := h.run a w hi
 have hwa := wanted_of (ops := ops) (o := ⟨d, op, ty, p, af, some (j, want)⟩) hi rfl hj hb
 unfold wpList at h1 ⊢
 rw [hwa, hw]
 simpa [Region.wanted, Oper.wp, Oper.asks, execOp, Oper.upon] using h1
theorem al_not {op : Op} {d : Nat} {ty : TypeId} {p : String} {af : Array Edge} {j t : Nat} {want b : Bool} (hj : (ops[j]?).bind (·.dst) = some t) (hb : look sl t = .d (.val (.bool b))) (hw : b ≠ want) (hd : d < E.n)
  (h : AL E ops rest Q ((d, .d (.val undef)) :: sl) ob) : AL E ops (⟨some d, op, ty, p, af, some (j, want)⟩ :: rest) Q sl ob := by
 refine ⟨fun a w hi => ?_⟩
 have hwa := wanted_of (ops := ops) (o := ⟨some d, op, ty, p, af, some (j, want)⟩) hi rfl hj hb
 obtain ⟨Pr, β, κ, hg⟩ := hi
 unfold wpList
 rw [hwa, if_neg (by simpa using hw)]
 exact h.run _ _ ⟨Pr, β, κ, hg.put hd (.d _ _ (.val _))⟩
theorem al_not_u {op : Op} {d : Nat} {ty : TypeId} {p : String} {af : Array Edge} {j t : Nat} {want : Bool} (hj : (ops[j]?).bind (·.dst) = some t) (hb : look sl t = .d (.val undef)) (hd : d < E.n)
  (h : AL E ops rest Q ((d, .d (.val undef)) :: sl) ob) : AL E ops (⟨some d, op, ty, p, af, some (j, want)⟩ :: rest) Q sl ob := by
 refine ⟨fun a w hi => ?_⟩
 obtain ⟨Pr, β, κ, hg⟩ := hi
 have hs := hg.slots t
 rw [hb] at hs
 have hwa : Region.wanted ⟨some d, op, ty, p, af, some (j, want)⟩ (yielded ops a.tmps) = false := unwanted_u hj hs.val_inv
 unfold wpList
 rw [hwa, if_neg (by simp)]
 exact h.run _ _ ⟨Pr, β, κ, hg.put hd (.d _ _ (.val _))⟩
theorem al_not_t {op : Op} {d : Nat} {ty : TypeId} {p : String} {af : Array Edge} {j t : Nat} {b : Bool} (hj : (ops[j]?).bind (·.dst) = some t) (hb : look sl t = .d (.val (.bool b))) (hw : b = false) (hd : d < E.n)
  (h : AL E ops rest Q ((d, .d (.val undef)) :: sl) ob) : AL E ops (⟨some d, op, ty, p, af, some (j, true)⟩ :: rest) Q sl ob := al_not hj hb (by simp [hw]) hd h
theorem al_not_f {op : Op} {d : Nat} {ty : TypeId} {p : String} {af : Array Edge} {j t : Nat} {b : Bool} (hj : (ops[j]?).bind (·.dst) = some t) (hb : look sl t = .d (.val (.bool b))) (hw : b = true) (hd : d < E.n)
  (h : AL E ops rest Q ((d, .d (.val undef)) :: sl) ob) : AL E ops (⟨some d, op, ty, p, af, some (j, false)⟩ :: rest) Q sl ob := al_not hj hb (by simp [hw]) hd h
theorem al_split_t {op : Op} {d : Nat} {ty : TypeId} {p : String} {af : Array Edge} {j t : Nat} {b : Bool} (hj : (ops[j]?).bind (·.dst) = some t) (hb : look sl t = .d (.val (.bool b))) (hd : d < E.n)
  (h1 : b = true → AL E ops (⟨some d, op, ty, p, af, none⟩ :: rest) Q sl ob) (h2 : b = false → AL E ops rest Q ((d, .d (.val undef)) :: sl) ob) : AL E ops (⟨some d, op, ty, p, af, some (j, true)⟩ :: rest) Q sl ob := by
 cases b
 ·exact al_not_t hj hb rfl hd (h2 rfl)
 ·exact al_go hj hb rfl (h1 rfl)
theorem al_split_f {op : Op} {d : Nat} {ty : TypeId} {p : String} {af : Array Edge} {j t : Nat} {b : Bool} (hj : (ops[j]?).bind (·.dst) = some t) (hb : look sl t = .d (.val (.bool b))) (hd : d < E.n)
  (h1 : b = true → AL E ops rest Q ((d, .d (.val undef)) :: sl) ob) (h2 : b = false → AL E ops (⟨some d, op, ty, p, af, none⟩ :: rest) Q sl ob) : AL E ops (⟨some d, op, ty, p, af, some (j, false)⟩ :: rest) Q sl ob := by
 cases b
 ·exact al_go hj hb rfl (h2 rfl)
 ·exact al_not_f hj hb rfl hd (h1 rfl)
theorem al_nil (h : AQ E .normal Q sl ob) : AL E ops [] Q sl ob := ⟨fun a w hi => h.run a w hi⟩
end
section
variable {E : Entry} {sl : Slots} {ob : Objs} {a : Act} {w : World} {Pr : Prot} {β : Nat → Value} {κ : Nat → Nat}
theorem good_ev (h : Good E sl ob a w Pr β κ) (x : Operand) : RepV w Pr β κ (a.eval x) (ev sl x) := by
 cases x with
 | tmp t => exact h.slots t
 | const v => exact .d _ _ (.val v)
 | global g => exact .d _ _ (.val _)
 | func f => exact .d _ _ (.val _)
theorem good_val (h : Good E sl ob a w Pr β κ) {x : Operand} {v : Value} (hx : ev sl x = .d (.val v)) : a.eval x = v := by
 have := good_ev h x
 rw [hx] at this
 exact this.val_inv
theorem good_rep (h : Good E sl ob a w Pr β κ) {x : Operand} {d : D} (hx : ev sl x = .d d) : RepD w Pr (a.eval x) d := by
 have := good_ev h x
 rw [hx] at this
 exact this.d_inv
variable {d : Option Nat} {t ty : TypeId} {p : String} {af : Array Edge} {g : Option (Nat × Bool)} {x y c : Operand}
inductive Cf : V → V → Prop where
 | d (x : D) : Cf (.d x) (.d x)
 | box (i o : Nat) : Cf (.box i o) (.box i o)
 | row (i k : Nat) : Cf (.row i k) (.row i k)
 | ep (l : List D) (o : Nat) : Cf (.ep l o) (.ep l o)
 | sl (i o n : Nat) : Cf (.sl i o n) (.sl i o n)
 | mp (i : Nat) : Cf (.mp i) (.mp i)
 | agg (l : List V) : Cf (.agg l) (.agg l)
 | clo (f : Fn) (l : List V) : Cf (.clo f l) (.clo f l)
 | mv (f : Fn) (l : List V) : Cf (.mv f l) (.mv f l)
 | tup (l : List V) : Cf (.tup l) (.tup l)
 | und : Cf .und .und
theorem Cf.eq {u v : V} (h : Cf u v) : u = v := by cases h <;> rfl
theorem y_moveC {v : V} (hv : Cf (ev sl x) v) : Y E ⟨d, .move x, t, p, af, g⟩ sl ob v := fun a w Pr β κ h => ⟨a.eval x, hv.eq ▸ good_ev h x, fun w' _ => by simp [execOp]⟩
theorem y_assignC {v : V} (hv : Cf (ev sl x) v) : Y E ⟨d, .assign x, t, p, af, g⟩ sl ob v := fun a w Pr β κ h => ⟨a.eval x, hv.eq ▸ good_ev h x, fun w' _ => by simp [execOp]⟩
theorem y_move {v : V} (hv : ev sl x = v) : Y E ⟨d, .move x, t, p, af, g⟩ sl ob v := fun a w Pr β κ h => ⟨a.eval x, hv ▸ good_ev h x, fun w' _ => by simp [execOp]⟩
theorem y_assign {v : V} (hv : ev sl x = v) : Y E ⟨d, .assign x, t, p, af, g⟩ sl ob v := fun a w Pr β κ h => ⟨a.eval x, hv ▸ good_ev h x, fun w' _ => by simp [execOp]⟩
theorem ev_d {z : D} (h : ev sl x = .d z) : ev sl x = .d z := h
theorem ev_box {i o : Nat} (h : ev sl x = .box i o) : ev sl x = .box i o := h
theorem ev_row {i o : Nat} (h : ev sl x = .row i o) : ev sl x = .row i o := h
theorem y_pick_t {b : Bool} {v : V} (hc : ev sl c = .d (.val (.bool b))) (hb : b = true) (hv : ev sl x = v) : Y E ⟨d, .pick c x y, t, p, af, g⟩ sl ob v := fun a w Pr β κ h =>
 ⟨a.eval x, hv ▸ good_ev h x, fun w' _ => by have := good_val h hc; simp [execOp, this, asBool, hb]⟩
theorem y_pick_f {b : Bool} {v : V} (hc : ev sl c = .d (.val (.bool b))) (hb : b = false) (hv : ev sl y = v) : Y E ⟨d, .pick c x y, t, p, af, g⟩ sl ob v := fun a w Pr β κ h =>
 ⟨a.eval y, hv ▸ good_ev h y, fun w' _ => by have := good_val h hc; simp [execOp, this, asBool, hb]⟩
end
end
end Go.Proofs.Ytgiacdhffklenaa
