/-
  What the types of this seat are. Conditions: none.
-/
import Derived.Test.YtappligfampdjaaTi
import Derived.Test.YtappligfampdjaaProg
import Derived.KernelRfl
namespace Go.Proofs.Ytappligfampdjaa

def ti : Nat → TI
  | 1 => .one (.nilFunc)
  | 2 => .one (.int .i64 0)
  | 3 => .one (.int .i64 0)
  | 4 => .one (.bool Bool.false)
  | 5 => .one (.int .u8 0)
  | 6 => .one (.int .u8 0)
  | 7 => .st [.int .i64 0, .int .i64 0, .bool Bool.false, .int .u8 0] [(0, 1, 2), (1, 1, 3), (2, 1, 4), (3, 1, 6)]
  | 8 => .st [.int .i64 0, .int .i64 0, .bool Bool.false, .int .u8 0] [(0, 1, 2), (1, 1, 3), (2, 1, 4), (3, 1, 6)]
  | 9 => .one (.string ⟨#[]⟩)
  | 10 => .one (.string ⟨#[]⟩)
  | 11 => .one (.string ⟨#[]⟩)
  | 12 => .one (.int .u64 0)
  | 13 => .st [.string ⟨#[]⟩, .int .u64 0] [(0, 1, 9), (1, 1, 12)]
  | 14 => .st [.string ⟨#[]⟩, .int .u64 0] [(0, 1, 9), (1, 1, 12)]
  | 15 => .one (.pointer none)
  | 16 => .one (.pointer none)
  | 17 => .one (.pointer none)
  | 18 => .st [.pointer none] [(0, 1, 17)]
  | 19 => .st [.pointer none] [(0, 1, 17)]
  | 20 => .one (.nilIface)
  | 21 => .one (.int .i32 0)
  | 22 => .sl 32 2 24 (.agg #[.int .i64 0, .string ⟨#[]⟩])
  | 23 => .st [.int .i64 0, .string ⟨#[]⟩, .int .i64 0] [(0, 1, 3), (1, 1, 9), (2, 1, 3)]
  | 24 => .st [.int .i64 0, .string ⟨#[]⟩, .int .i64 0] [(0, 1, 3), (1, 1, 9), (2, 1, 3)]
  | 25 => .one (.nilFunc)
  | 26 => .one (.pointer none)
  | 27 => .one (.nilFunc)
  | 28 => .one (.nilFunc)
  | 29 => .sl 24 3 32 (.agg #[.int .i64 0, .string ⟨#[]⟩, .int .i64 0])
  | 30 => .one (.nilFunc)
  | 31 => .st [.int .i64 0, .string ⟨#[]⟩] [(0, 1, 3), (1, 1, 9)]
  | 32 => .st [.int .i64 0, .string ⟨#[]⟩] [(0, 1, 3), (1, 1, 9)]
  | 33 => .one (.nilFunc)
  | 34 => .one (.nilFunc)
  | 35 => .one (.nilFunc)
  | 36 => .one (.nilFunc)
  | 37 => .one (.nilFunc)
  | 38 => .one (.pointer none)
  | 39 => .one (.nilFunc)
  | 40 => .one (.int .i64 0)
  | 42 => .one (.nilFunc)
  | 44 => .one (.nilFunc)
  | 45 => .one (.nilFunc)
  | 46 => .one (.map none)
  | 47 => .st [.slice none 0 0, .map none] [(0, 1, 22), (1, 1, 46)]
  | 48 => .st [.slice none 0 0, .map none] [(0, 1, 22), (1, 1, 46)]
  | 49 => .one (.nilFunc)
  | 51 => .one (.nilFunc)
  | 52 => .st [.slice none 0 0] [(0, 1, 22)]
  | 53 => .st [.slice none 0 0] [(0, 1, 22)]
  | 54 => .one (.nilFunc)
  | 55 => .one (.nilFunc)
  | 56 => .one (.nilFunc)
  | 57 => .one (.nilFunc)
  | 58 => .st [.pointer none, .pointer none, .pointer none, .string ⟨#[]⟩] [(0, 1, 17), (1, 1, 17), (2, 1, 17), (3, 1, 9)]
  | 59 => .st [.pointer none, .pointer none, .pointer none, .string ⟨#[]⟩] [(0, 1, 17), (1, 1, 17), (2, 1, 17), (3, 1, 9)]
  | 60 => .ar 0 16 1 []
  | 61 => .st [] [(0, 0, 60)]
  | 62 => .st [] [(0, 0, 60)]
  | 63 => .one (.nilFunc)
  | 64 => .one (.int .u32 0)
  | 65 => .one (.int .u8 0)
  | 66 => .one (.int .u8 0)
  | 67 => .one (.nilFunc)
  | 68 => .one (.pointer none)
  | 69 => .one (.int .i32 0)
  | 70 => .one (.int .i32 0)
  | 71 => .st [.int .u64 0, .int .u64 0, .int .u32 0, .int .u8 0, .int .u8 0, .int .u8 0, .int .u8 0, .nilFunc, .pointer none, .int .i32 0, .int .i32 0] [(0, 1, 12), (1, 1, 12), (2, 1, 64), (3, 1, 65), (4, 1, 5), (5, 1, 5), (6, 1, 66), (7, 1, 67), (8, 1, 68), (9, 1, 69), (10, 1, 70)]
  | 72 => .st [.int .u64 0, .int .u64 0, .int .u32 0, .int .u8 0, .int .u8 0, .int .u8 0, .int .u8 0, .nilFunc, .pointer none, .int .i32 0, .int .i32 0] [(0, 1, 12), (1, 1, 12), (2, 1, 64), (3, 1, 65), (4, 1, 5), (5, 1, 5), (6, 1, 66), (7, 1, 67), (8, 1, 68), (9, 1, 69), (10, 1, 70)]
  | 73 => .one (.pointer none)
  | _ => .no
theorem ti1 : tiOf Try.prog 1 = ti 1 := by kernel_rfl
theorem ti2 : tiOf Try.prog 2 = ti 2 := by kernel_rfl
theorem ti3 : tiOf Try.prog 3 = ti 3 := by kernel_rfl
theorem ti4 : tiOf Try.prog 4 = ti 4 := by kernel_rfl
theorem ti5 : tiOf Try.prog 5 = ti 5 := by kernel_rfl
theorem ti6 : tiOf Try.prog 6 = ti 6 := by kernel_rfl
theorem ti7 : tiOf Try.prog 7 = ti 7 := by kernel_rfl
theorem ti8 : tiOf Try.prog 8 = ti 8 := by kernel_rfl
theorem ti9 : tiOf Try.prog 9 = ti 9 := by kernel_rfl
theorem ti10 : tiOf Try.prog 10 = ti 10 := by kernel_rfl
theorem ti11 : tiOf Try.prog 11 = ti 11 := by kernel_rfl
theorem ti12 : tiOf Try.prog 12 = ti 12 := by kernel_rfl
theorem ti13 : tiOf Try.prog 13 = ti 13 := by kernel_rfl
theorem ti14 : tiOf Try.prog 14 = ti 14 := by kernel_rfl
theorem ti15 : tiOf Try.prog 15 = ti 15 := by kernel_rfl
theorem ti16 : tiOf Try.prog 16 = ti 16 := by kernel_rfl
theorem ti17 : tiOf Try.prog 17 = ti 17 := by kernel_rfl
theorem ti18 : tiOf Try.prog 18 = ti 18 := by kernel_rfl
theorem ti19 : tiOf Try.prog 19 = ti 19 := by kernel_rfl
theorem ti20 : tiOf Try.prog 20 = ti 20 := by kernel_rfl
theorem ti21 : tiOf Try.prog 21 = ti 21 := by kernel_rfl
theorem ti22 : tiOf Try.prog 22 = ti 22 := by kernel_rfl
theorem ti23 : tiOf Try.prog 23 = ti 23 := by kernel_rfl
theorem ti24 : tiOf Try.prog 24 = ti 24 := by kernel_rfl
theorem ti25 : tiOf Try.prog 25 = ti 25 := by kernel_rfl
theorem ti26 : tiOf Try.prog 26 = ti 26 := by kernel_rfl
theorem ti27 : tiOf Try.prog 27 = ti 27 := by kernel_rfl
theorem ti28 : tiOf Try.prog 28 = ti 28 := by kernel_rfl
theorem ti29 : tiOf Try.prog 29 = ti 29 := by kernel_rfl
theorem ti30 : tiOf Try.prog 30 = ti 30 := by kernel_rfl
theorem ti31 : tiOf Try.prog 31 = ti 31 := by kernel_rfl
theorem ti32 : tiOf Try.prog 32 = ti 32 := by kernel_rfl
theorem ti33 : tiOf Try.prog 33 = ti 33 := by kernel_rfl
theorem ti34 : tiOf Try.prog 34 = ti 34 := by kernel_rfl
theorem ti35 : tiOf Try.prog 35 = ti 35 := by kernel_rfl
theorem ti36 : tiOf Try.prog 36 = ti 36 := by kernel_rfl
theorem ti37 : tiOf Try.prog 37 = ti 37 := by kernel_rfl
theorem ti38 : tiOf Try.prog 38 = ti 38 := by kernel_rfl
theorem ti39 : tiOf Try.prog 39 = ti 39 := by kernel_rfl
theorem ti40 : tiOf Try.prog 40 = ti 40 := by kernel_rfl
theorem ti42 : tiOf Try.prog 42 = ti 42 := by kernel_rfl
theorem ti44 : tiOf Try.prog 44 = ti 44 := by kernel_rfl
theorem ti45 : tiOf Try.prog 45 = ti 45 := by kernel_rfl
theorem ti46 : tiOf Try.prog 46 = ti 46 := by kernel_rfl
theorem ti47 : tiOf Try.prog 47 = ti 47 := by kernel_rfl
theorem ti48 : tiOf Try.prog 48 = ti 48 := by kernel_rfl
theorem ti49 : tiOf Try.prog 49 = ti 49 := by kernel_rfl
theorem ti51 : tiOf Try.prog 51 = ti 51 := by kernel_rfl
theorem ti52 : tiOf Try.prog 52 = ti 52 := by kernel_rfl
theorem ti53 : tiOf Try.prog 53 = ti 53 := by kernel_rfl
theorem ti54 : tiOf Try.prog 54 = ti 54 := by kernel_rfl
theorem ti55 : tiOf Try.prog 55 = ti 55 := by kernel_rfl
theorem ti56 : tiOf Try.prog 56 = ti 56 := by kernel_rfl
theorem ti57 : tiOf Try.prog 57 = ti 57 := by kernel_rfl
theorem ti58 : tiOf Try.prog 58 = ti 58 := by kernel_rfl
theorem ti59 : tiOf Try.prog 59 = ti 59 := by kernel_rfl
theorem ti60 : tiOf Try.prog 60 = ti 60 := by kernel_rfl
theorem ti61 : tiOf Try.prog 61 = ti 61 := by kernel_rfl
theorem ti62 : tiOf Try.prog 62 = ti 62 := by kernel_rfl
theorem ti63 : tiOf Try.prog 63 = ti 63 := by kernel_rfl
theorem ti64 : tiOf Try.prog 64 = ti 64 := by kernel_rfl
theorem ti65 : tiOf Try.prog 65 = ti 65 := by kernel_rfl
theorem ti66 : tiOf Try.prog 66 = ti 66 := by kernel_rfl
theorem ti67 : tiOf Try.prog 67 = ti 67 := by kernel_rfl
theorem ti68 : tiOf Try.prog 68 = ti 68 := by kernel_rfl
theorem ti69 : tiOf Try.prog 69 = ti 69 := by kernel_rfl
theorem ti70 : tiOf Try.prog 70 = ti 70 := by kernel_rfl
theorem ti71 : tiOf Try.prog 71 = ti 71 := by kernel_rfl
theorem ti72 : tiOf Try.prog 72 = ti 72 := by kernel_rfl
theorem ti73 : tiOf Try.prog 73 = ti 73 := by kernel_rfl
theorem tiok : ∀ t, ti t ≠ .no → tiOf Try.prog t = ti t := by
  intro t h
  unfold ti at h
  split at h
  · exact ti1
  · exact ti2
  · exact ti3
  · exact ti4
  · exact ti5
  · exact ti6
  · exact ti7
  · exact ti8
  · exact ti9
  · exact ti10
  · exact ti11
  · exact ti12
  · exact ti13
  · exact ti14
  · exact ti15
  · exact ti16
  · exact ti17
  · exact ti18
  · exact ti19
  · exact ti20
  · exact ti21
  · exact ti22
  · exact ti23
  · exact ti24
  · exact ti25
  · exact ti26
  · exact ti27
  · exact ti28
  · exact ti29
  · exact ti30
  · exact ti31
  · exact ti32
  · exact ti33
  · exact ti34
  · exact ti35
  · exact ti36
  · exact ti37
  · exact ti38
  · exact ti39
  · exact ti40
  · exact ti42
  · exact ti44
  · exact ti45
  · exact ti46
  · exact ti47
  · exact ti48
  · exact ti49
  · exact ti51
  · exact ti52
  · exact ti53
  · exact ti54
  · exact ti55
  · exact ti56
  · exact ti57
  · exact ti58
  · exact ti59
  · exact ti60
  · exact ti61
  · exact ti62
  · exact ti63
  · exact ti64
  · exact ti65
  · exact ti66
  · exact ti67
  · exact ti68
  · exact ti69
  · exact ti70
  · exact ti71
  · exact ti72
  · exact ti73
  · exact absurd rfl h
def ki : Nat → Option IntKind
  | 2 => some .i64
  | 3 => some .i64
  | 5 => some .u8
  | 6 => some .u8
  | 12 => some .u64
  | 21 => some .i32
  | 40 => some .i64
  | 64 => some .u32
  | 65 => some .u8
  | 66 => some .u8
  | 69 => some .i32
  | 70 => some .i32
  | _ => none
theorem ki2 : Try.prog.underlying 2 = some (.int .i64) := by kernel_rfl
theorem ki3 : Try.prog.underlying 3 = some (.int .i64) := by kernel_rfl
theorem ki5 : Try.prog.underlying 5 = some (.int .u8) := by kernel_rfl
theorem ki6 : Try.prog.underlying 6 = some (.int .u8) := by kernel_rfl
theorem ki12 : Try.prog.underlying 12 = some (.int .u64) := by kernel_rfl
theorem ki21 : Try.prog.underlying 21 = some (.int .i32) := by kernel_rfl
theorem ki40 : Try.prog.underlying 40 = some (.int .i64) := by kernel_rfl
theorem ki64 : Try.prog.underlying 64 = some (.int .u32) := by kernel_rfl
theorem ki65 : Try.prog.underlying 65 = some (.int .u8) := by kernel_rfl
theorem ki66 : Try.prog.underlying 66 = some (.int .u8) := by kernel_rfl
theorem ki69 : Try.prog.underlying 69 = some (.int .i32) := by kernel_rfl
theorem ki70 : Try.prog.underlying 70 = some (.int .i32) := by kernel_rfl
theorem kiok : ∀ t k, ki t = some k → Try.prog.underlying t = some (.int k) := by
  intro t k h
  unfold ki at h
  split at h
  · cases h; exact ki2
  · cases h; exact ki3
  · cases h; exact ki5
  · cases h; exact ki6
  · cases h; exact ki12
  · cases h; exact ki21
  · cases h; exact ki40
  · cases h; exact ki64
  · cases h; exact ki65
  · cases h; exact ki66
  · cases h; exact ki69
  · cases h; exact ki70
  · cases h
end Go.Proofs.Ytappligfampdjaa
