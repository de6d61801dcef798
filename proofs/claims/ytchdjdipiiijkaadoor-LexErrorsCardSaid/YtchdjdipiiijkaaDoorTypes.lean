/-
  What the types of this seat are. Conditions: none.
-/
import Derived.Test.YtchdjdipiiijkaaDoorTi
import Derived.Test.YtchdjdipiiijkaaDoorProg
import Derived.KernelRfl
namespace Go.Proofs.YtchdjdipiiijkaaDoor

def ti : Nat → TI
  | 1 => .one (.nilFunc)
  | 2 => .one (.int .i64 0)
  | 3 => .one (.int .i64 0)
  | 4 => .one (.bool Bool.false)
  | 5 => .one (.int .u8 0)
  | 6 => .one (.int .u8 0)
  | 7 => .st [.int .i64 0, .int .i64 0, .bool Bool.false, .int .u8 0] [(0, 1, 2), (1, 1, 3), (2, 1, 4), (3, 1, 6)]
  | 8 => .st [.int .i64 0, .int .i64 0, .bool Bool.false, .int .u8 0] [(0, 1, 2), (1, 1, 3), (2, 1, 4), (3, 1, 6)]
  | 9 => .one (.string ⟨#[]⟩)
  | 10 => .one (.string ⟨#[]⟩)
  | 11 => .one (.string ⟨#[]⟩)
  | 12 => .one (.int .u64 0)
  | 13 => .st [.string ⟨#[]⟩, .int .u64 0] [(0, 1, 9), (1, 1, 12)]
  | 14 => .st [.string ⟨#[]⟩, .int .u64 0] [(0, 1, 9), (1, 1, 12)]
  | 15 => .one (.pointer none)
  | 16 => .one (.pointer none)
  | 17 => .one (.pointer none)
  | 18 => .st [.pointer none] [(0, 1, 17)]
  | 19 => .st [.pointer none] [(0, 1, 17)]
  | 20 => .one (.nilIface)
  | 21 => .one (.int .i32 0)
  | 22 => .sl 25 4 40 (.agg #[.int .i64 0, .string ⟨#[]⟩, .int .i64 0, .int .i64 0])
  | 23 => .one (.nilFunc)
  | 24 => .st [.int .i64 0, .string ⟨#[]⟩, .int .i64 0, .int .i64 0] [(0, 1, 3), (1, 1, 9), (2, 1, 3), (3, 1, 3)]
  | 25 => .st [.int .i64 0, .string ⟨#[]⟩, .int .i64 0, .int .i64 0] [(0, 1, 3), (1, 1, 9), (2, 1, 3), (3, 1, 3)]
  | 26 => .one (.nilFunc)
  | 27 => .one (.int .i64 0)
  | 29 => .one (.nilFunc)
  | 31 => .one (.nilFunc)
  | 32 => .one (.nilFunc)
  | 33 => .one (.nilFunc)
  | 34 => .one (.nilFunc)
  | 35 => .one (.nilFunc)
  | 36 => .one (.nilFunc)
  | 37 => .one (.nilFunc)
  | 38 => .one (.nilFunc)
  | 40 => .one (.nilFunc)
  | 41 => .one (.nilFunc)
  | 42 => .sl 9 1 16 (.string ⟨#[]⟩)
  | 43 => .one (.nilFunc)
  | 44 => .ar 11 9 1 [.string ⟨#[]⟩, .string ⟨#[]⟩, .string ⟨#[]⟩, .string ⟨#[]⟩, .string ⟨#[]⟩, .string ⟨#[]⟩, .string ⟨#[]⟩, .string ⟨#[]⟩, .string ⟨#[]⟩, .string ⟨#[]⟩, .string ⟨#[]⟩]
  | 45 => .one (.nilFunc)
  | 46 => .one (.nilFunc)
  | 47 => .one (.pointer none)
  | 48 => .sl 5 1 1 (.int .u8 0)
  | 49 => .st [.pointer none, .slice none 0 0] [(0, 1, 47), (1, 1, 48)]
  | 50 => .st [.pointer none, .slice none 0 0] [(0, 1, 47), (1, 1, 48)]
  | 51 => .one (.nilFunc)
  | 52 => .one (.nilIface)
  | 53 => .one (.nilIface)
  | 55 => .one (.nilFunc)
  | 56 => .one (.nilFunc)
  | 57 => .one (.pointer none)
  | 58 => .one (.pointer none)
  | 59 => .one (.nilFunc)
  | 60 => .one (.nilFunc)
  | 61 => .st [.pointer none, .pointer none, .pointer none, .string ⟨#[]⟩] [(0, 1, 17), (1, 1, 17), (2, 1, 17), (3, 1, 9)]
  | 62 => .st [.pointer none, .pointer none, .pointer none, .string ⟨#[]⟩] [(0, 1, 17), (1, 1, 17), (2, 1, 17), (3, 1, 9)]
  | 63 => .ar 0 16 1 []
  | 64 => .st [] [(0, 0, 63)]
  | 65 => .st [] [(0, 0, 63)]
  | 66 => .one (.nilFunc)
  | 67 => .one (.int .u32 0)
  | 68 => .one (.int .u8 0)
  | 69 => .one (.int .u8 0)
  | 70 => .one (.nilFunc)
  | 71 => .one (.int .i32 0)
  | 72 => .one (.int .i32 0)
  | 73 => .st [.int .u64 0, .int .u64 0, .int .u32 0, .int .u8 0, .int .u8 0, .int .u8 0, .int .u8 0, .nilFunc, .pointer none, .int .i32 0, .int .i32 0] [(0, 1, 12), (1, 1, 12), (2, 1, 67), (3, 1, 68), (4, 1, 5), (5, 1, 5), (6, 1, 69), (7, 1, 70), (8, 1, 57), (9, 1, 71), (10, 1, 72)]
  | 74 => .st [.int .u64 0, .int .u64 0, .int .u32 0, .int .u8 0, .int .u8 0, .int .u8 0, .int .u8 0, .nilFunc, .pointer none, .int .i32 0, .int .i32 0] [(0, 1, 12), (1, 1, 12), (2, 1, 67), (3, 1, 68), (4, 1, 5), (5, 1, 5), (6, 1, 69), (7, 1, 70), (8, 1, 57), (9, 1, 71), (10, 1, 72)]
  | _ => .no
theorem ti1 : tiOf Tryd.prog 1 = ti 1 := by kernel_rfl
theorem ti2 : tiOf Tryd.prog 2 = ti 2 := by kernel_rfl
theorem ti3 : tiOf Tryd.prog 3 = ti 3 := by kernel_rfl
theorem ti4 : tiOf Tryd.prog 4 = ti 4 := by kernel_rfl
theorem ti5 : tiOf Tryd.prog 5 = ti 5 := by kernel_rfl
theorem ti6 : tiOf Tryd.prog 6 = ti 6 := by kernel_rfl
theorem ti7 : tiOf Tryd.prog 7 = ti 7 := by kernel_rfl
theorem ti8 : tiOf Tryd.prog 8 = ti 8 := by kernel_rfl
theorem ti9 : tiOf Tryd.prog 9 = ti 9 := by kernel_rfl
theorem ti10 : tiOf Tryd.prog 10 = ti 10 := by kernel_rfl
theorem ti11 : tiOf Tryd.prog 11 = ti 11 := by kernel_rfl
theorem ti12 : tiOf Tryd.prog 12 = ti 12 := by kernel_rfl
theorem ti13 : tiOf Tryd.prog 13 = ti 13 := by kernel_rfl
theorem ti14 : tiOf Tryd.prog 14 = ti 14 := by kernel_rfl
theorem ti15 : tiOf Tryd.prog 15 = ti 15 := by kernel_rfl
theorem ti16 : tiOf Tryd.prog 16 = ti 16 := by kernel_rfl
theorem ti17 : tiOf Tryd.prog 17 = ti 17 := by kernel_rfl
theorem ti18 : tiOf Tryd.prog 18 = ti 18 := by kernel_rfl
theorem ti19 : tiOf Tryd.prog 19 = ti 19 := by kernel_rfl
theorem ti20 : tiOf Tryd.prog 20 = ti 20 := by kernel_rfl
theorem ti21 : tiOf Tryd.prog 21 = ti 21 := by kernel_rfl
theorem ti22 : tiOf Tryd.prog 22 = ti 22 := by kernel_rfl
theorem ti23 : tiOf Tryd.prog 23 = ti 23 := by kernel_rfl
theorem ti24 : tiOf Tryd.prog 24 = ti 24 := by kernel_rfl
theorem ti25 : tiOf Tryd.prog 25 = ti 25 := by kernel_rfl
theorem ti26 : tiOf Tryd.prog 26 = ti 26 := by kernel_rfl
theorem ti27 : tiOf Tryd.prog 27 = ti 27 := by kernel_rfl
theorem ti29 : tiOf Tryd.prog 29 = ti 29 := by kernel_rfl
theorem ti31 : tiOf Tryd.prog 31 = ti 31 := by kernel_rfl
theorem ti32 : tiOf Tryd.prog 32 = ti 32 := by kernel_rfl
theorem ti33 : tiOf Tryd.prog 33 = ti 33 := by kernel_rfl
theorem ti34 : tiOf Tryd.prog 34 = ti 34 := by kernel_rfl
theorem ti35 : tiOf Tryd.prog 35 = ti 35 := by kernel_rfl
theorem ti36 : tiOf Tryd.prog 36 = ti 36 := by kernel_rfl
theorem ti37 : tiOf Tryd.prog 37 = ti 37 := by kernel_rfl
theorem ti38 : tiOf Tryd.prog 38 = ti 38 := by kernel_rfl
theorem ti40 : tiOf Tryd.prog 40 = ti 40 := by kernel_rfl
theorem ti41 : tiOf Tryd.prog 41 = ti 41 := by kernel_rfl
theorem ti42 : tiOf Tryd.prog 42 = ti 42 := by kernel_rfl
theorem ti43 : tiOf Tryd.prog 43 = ti 43 := by kernel_rfl
theorem ti44 : tiOf Tryd.prog 44 = ti 44 := by kernel_rfl
theorem ti45 : tiOf Tryd.prog 45 = ti 45 := by kernel_rfl
theorem ti46 : tiOf Tryd.prog 46 = ti 46 := by kernel_rfl
theorem ti47 : tiOf Tryd.prog 47 = ti 47 := by kernel_rfl
theorem ti48 : tiOf Tryd.prog 48 = ti 48 := by kernel_rfl
theorem ti49 : tiOf Tryd.prog 49 = ti 49 := by kernel_rfl
theorem ti50 : tiOf Tryd.prog 50 = ti 50 := by kernel_rfl
theorem ti51 : tiOf Tryd.prog 51 = ti 51 := by kernel_rfl
theorem ti52 : tiOf Tryd.prog 52 = ti 52 := by kernel_rfl
theorem ti53 : tiOf Tryd.prog 53 = ti 53 := by kernel_rfl
theorem ti55 : tiOf Tryd.prog 55 = ti 55 := by kernel_rfl
theorem ti56 : tiOf Tryd.prog 56 = ti 56 := by kernel_rfl
theorem ti57 : tiOf Tryd.prog 57 = ti 57 := by kernel_rfl
theorem ti58 : tiOf Tryd.prog 58 = ti 58 := by kernel_rfl
theorem ti59 : tiOf Tryd.prog 59 = ti 59 := by kernel_rfl
theorem ti60 : tiOf Tryd.prog 60 = ti 60 := by kernel_rfl
theorem ti61 : tiOf Tryd.prog 61 = ti 61 := by kernel_rfl
theorem ti62 : tiOf Tryd.prog 62 = ti 62 := by kernel_rfl
theorem ti63 : tiOf Tryd.prog 63 = ti 63 := by kernel_rfl
theorem ti64 : tiOf Tryd.prog 64 = ti 64 := by kernel_rfl
theorem ti65 : tiOf Tryd.prog 65 = ti 65 := by kernel_rfl
theorem ti66 : tiOf Tryd.prog 66 = ti 66 := by kernel_rfl
theorem ti67 : tiOf Tryd.prog 67 = ti 67 := by kernel_rfl
theorem ti68 : tiOf Tryd.prog 68 = ti 68 := by kernel_rfl
theorem ti69 : tiOf Tryd.prog 69 = ti 69 := by kernel_rfl
theorem ti70 : tiOf Tryd.prog 70 = ti 70 := by kernel_rfl
theorem ti71 : tiOf Tryd.prog 71 = ti 71 := by kernel_rfl
theorem ti72 : tiOf Tryd.prog 72 = ti 72 := by kernel_rfl
theorem ti73 : tiOf Tryd.prog 73 = ti 73 := by kernel_rfl
theorem ti74 : tiOf Tryd.prog 74 = ti 74 := by kernel_rfl
theorem tiok : ∀ t, ti t ≠ .no → tiOf Tryd.prog t = ti t := by
  intro t h
  unfold ti at h
  split at h
  · exact ti1
  · exact ti2
  · exact ti3
  · exact ti4
  · exact ti5
  · exact ti6
  · exact ti7
  · exact ti8
  · exact ti9
  · exact ti10
  · exact ti11
  · exact ti12
  · exact ti13
  · exact ti14
  · exact ti15
  · exact ti16
  · exact ti17
  · exact ti18
  · exact ti19
  · exact ti20
  · exact ti21
  · exact ti22
  · exact ti23
  · exact ti24
  · exact ti25
  · exact ti26
  · exact ti27
  · exact ti29
  · exact ti31
  · exact ti32
  · exact ti33
  · exact ti34
  · exact ti35
  · exact ti36
  · exact ti37
  · exact ti38
  · exact ti40
  · exact ti41
  · exact ti42
  · exact ti43
  · exact ti44
  · exact ti45
  · exact ti46
  · exact ti47
  · exact ti48
  · exact ti49
  · exact ti50
  · exact ti51
  · exact ti52
  · exact ti53
  · exact ti55
  · exact ti56
  · exact ti57
  · exact ti58
  · exact ti59
  · exact ti60
  · exact ti61
  · exact ti62
  · exact ti63
  · exact ti64
  · exact ti65
  · exact ti66
  · exact ti67
  · exact ti68
  · exact ti69
  · exact ti70
  · exact ti71
  · exact ti72
  · exact ti73
  · exact ti74
  · exact absurd rfl h
def ki : Nat → Option IntKind
  | 2 => some .i64
  | 3 => some .i64
  | 5 => some .u8
  | 6 => some .u8
  | 12 => some .u64
  | 21 => some .i32
  | 27 => some .i64
  | 67 => some .u32
  | 68 => some .u8
  | 69 => some .u8
  | 71 => some .i32
  | 72 => some .i32
  | _ => none
theorem ki2 : Tryd.prog.underlying 2 = some (.int .i64) := by kernel_rfl
theorem ki3 : Tryd.prog.underlying 3 = some (.int .i64) := by kernel_rfl
theorem ki5 : Tryd.prog.underlying 5 = some (.int .u8) := by kernel_rfl
theorem ki6 : Tryd.prog.underlying 6 = some (.int .u8) := by kernel_rfl
theorem ki12 : Tryd.prog.underlying 12 = some (.int .u64) := by kernel_rfl
theorem ki21 : Tryd.prog.underlying 21 = some (.int .i32) := by kernel_rfl
theorem ki27 : Tryd.prog.underlying 27 = some (.int .i64) := by kernel_rfl
theorem ki67 : Tryd.prog.underlying 67 = some (.int .u32) := by kernel_rfl
theorem ki68 : Tryd.prog.underlying 68 = some (.int .u8) := by kernel_rfl
theorem ki69 : Tryd.prog.underlying 69 = some (.int .u8) := by kernel_rfl
theorem ki71 : Tryd.prog.underlying 71 = some (.int .i32) := by kernel_rfl
theorem ki72 : Tryd.prog.underlying 72 = some (.int .i32) := by kernel_rfl
theorem kiok : ∀ t k, ki t = some k → Tryd.prog.underlying t = some (.int k) := by
  intro t k h
  unfold ki at h
  split at h
  · cases h; exact ki2
  · cases h; exact ki3
  · cases h; exact ki5
  · cases h; exact ki6
  · cases h; exact ki12
  · cases h; exact ki21
  · cases h; exact ki27
  · cases h; exact ki67
  · cases h; exact ki68
  · cases h; exact ki69
  · cases h; exact ki71
  · cases h; exact ki72
  · cases h
end Go.Proofs.YtchdjdipiiijkaaDoor
