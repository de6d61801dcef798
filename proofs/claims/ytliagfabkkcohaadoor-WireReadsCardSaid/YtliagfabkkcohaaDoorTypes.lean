/-
  What the types of this seat are. Conditions: none.
-/
import Derived.Test.YtliagfabkkcohaaDoorTi
import Derived.Test.YtliagfabkkcohaaDoorProg
import Derived.KernelRfl
namespace Go.Proofs.YtliagfabkkcohaaDoor

def ti : Nat → TI
  | 1 => .one (.nilFunc)
  | 2 => .one (.int .i64 0)
  | 3 => .one (.int .i64 0)
  | 4 => .one (.bool Bool.false)
  | 5 => .one (.int .u8 0)
  | 6 => .one (.int .u8 0)
  | 7 => .st [.int .i64 0, .int .i64 0, .bool Bool.false, .int .u8 0] [(0, 1, 2), (1, 1, 3), (2, 1, 4), (3, 1, 6)]
  | 8 => .st [.int .i64 0, .int .i64 0, .bool Bool.false, .int .u8 0] [(0, 1, 2), (1, 1, 3), (2, 1, 4), (3, 1, 6)]
  | 9 => .one (.string ⟨#[]⟩)
  | 10 => .one (.string ⟨#[]⟩)
  | 11 => .one (.string ⟨#[]⟩)
  | 12 => .one (.int .u64 0)
  | 13 => .st [.string ⟨#[]⟩, .int .u64 0] [(0, 1, 9), (1, 1, 12)]
  | 14 => .st [.string ⟨#[]⟩, .int .u64 0] [(0, 1, 9), (1, 1, 12)]
  | 15 => .one (.pointer none)
  | 16 => .one (.pointer none)
  | 17 => .one (.pointer none)
  | 18 => .st [.pointer none] [(0, 1, 17)]
  | 19 => .st [.pointer none] [(0, 1, 17)]
  | 20 => .one (.nilIface)
  | 21 => .one (.int .i32 0)
  | 22 => .sl 3 1 8 (.int .i64 0)
  | 23 => .sl 9 1 16 (.string ⟨#[]⟩)
  | 24 => .st [.int .i64 0, .int .i64 0, .string ⟨#[]⟩, .slice none 0 0, .slice none 0 0] [(0, 1, 3), (1, 1, 3), (2, 1, 9), (3, 1, 22), (4, 1, 23)]
  | 25 => .st [.int .i64 0, .int .i64 0, .string ⟨#[]⟩, .slice none 0 0, .slice none 0 0] [(0, 1, 3), (1, 1, 3), (2, 1, 9), (3, 1, 22), (4, 1, 23)]
  | 26 => .one (.nilFunc)
  | 27 => .one (.nilFunc)
  | 28 => .sl 25 5 80 (.agg #[.int .i64 0, .int .i64 0, .string ⟨#[]⟩, .slice none 0 0, .slice none 0 0])
  | 29 => .one (.nilFunc)
  | 30 => .one (.nilFunc)
  | 31 => .one (.nilFunc)
  | 32 => .one (.nilFunc)
  | 33 => .one (.nilFunc)
  | 34 => .one (.pointer none)
  | 35 => .one (.nilFunc)
  | 36 => .one (.nilFunc)
  | 37 => .one (.nilFunc)
  | 38 => .one (.nilFunc)
  | 39 => .one (.nilFunc)
  | 40 => .one (.nilFunc)
  | 41 => .one (.nilFunc)
  | 42 => .one (.nilFunc)
  | 43 => .one (.nilFunc)
  | 44 => .one (.nilFunc)
  | 45 => .one (.pointer none)
  | 46 => .one (.nilFunc)
  | 47 => .one (.nilFunc)
  | 48 => .one (.nilFunc)
  | 49 => .one (.nilFunc)
  | 50 => .one (.nilFunc)
  | 51 => .one (.nilFunc)
  | 52 => .one (.nilFunc)
  | 53 => .st [.string ⟨#[]⟩, .bool Bool.false] [(0, 1, 9), (1, 1, 4)]
  | 54 => .st [.string ⟨#[]⟩, .bool Bool.false] [(0, 1, 9), (1, 1, 4)]
  | 55 => .one (.nilFunc)
  | 56 => .one (.nilFunc)
  | 57 => .one (.nilFunc)
  | 58 => .one (.nilFunc)
  | 59 => .one (.nilFunc)
  | 60 => .st [.string ⟨#[]⟩, .bool Bool.false] [(0, 1, 9), (1, 1, 4)]
  | 61 => .st [.string ⟨#[]⟩, .bool Bool.false] [(0, 1, 9), (1, 1, 4)]
  | 62 => .one (.nilFunc)
  | 63 => .one (.nilFunc)
  | 64 => .sl 5 1 1 (.int .u8 0)
  | 65 => .one (.pointer none)
  | 66 => .st [.pointer none, .slice none 0 0] [(0, 1, 65), (1, 1, 64)]
  | 67 => .st [.pointer none, .slice none 0 0] [(0, 1, 65), (1, 1, 64)]
  | 68 => .one (.nilIface)
  | 69 => .one (.nilIface)
  | 71 => .one (.nilFunc)
  | 72 => .one (.nilFunc)
  | 74 => .one (.nilFunc)
  | 76 => .one (.nilFunc)
  | 77 => .one (.nilFunc)
  | 78 => .one (.pointer none)
  | 79 => .one (.nilFunc)
  | 80 => .ar 24 5 1 [.int .u8 0, .int .u8 0, .int .u8 0, .int .u8 0, .int .u8 0, .int .u8 0, .int .u8 0, .int .u8 0, .int .u8 0, .int .u8 0, .int .u8 0, .int .u8 0, .int .u8 0, .int .u8 0, .int .u8 0, .int .u8 0, .int .u8 0, .int .u8 0, .int .u8 0, .int .u8 0, .int .u8 0, .int .u8 0, .int .u8 0, .int .u8 0]
  | 81 => .one (.int .u64 0)
  | 82 => .one (.nilFunc)
  | 83 => .one (.nilFunc)
  | 85 => .one (.nilFunc)
  | 86 => .one (.pointer none)
  | 87 => .one (.nilFunc)
  | 88 => .one (.int .i64 0)
  | 90 => .one (.nilFunc)
  | 91 => .one (.pointer none)
  | 92 => .one (.nilFunc)
  | 93 => .one (.nilFunc)
  | 94 => .one (.nilFunc)
  | 95 => .one (.nilFunc)
  | 96 => .ar 20 81 1 [.int .u64 0, .int .u64 0, .int .u64 0, .int .u64 0, .int .u64 0, .int .u64 0, .int .u64 0, .int .u64 0, .int .u64 0, .int .u64 0, .int .u64 0, .int .u64 0, .int .u64 0, .int .u64 0, .int .u64 0, .int .u64 0, .int .u64 0, .int .u64 0, .int .u64 0, .int .u64 0]
  | 97 => .one (.int .u32 0)
  | 99 => .one (.nilFunc)
  | 100 => .one (.int .u64 0)
  | 101 => .one (.nilFunc)
  | 103 => .one (.nilFunc)
  | 104 => .st [.string ⟨#[]⟩, .string ⟨#[]⟩, .nilIface] [(0, 1, 9), (1, 1, 9), (2, 1, 69)]
  | 105 => .st [.string ⟨#[]⟩, .string ⟨#[]⟩, .nilIface] [(0, 1, 9), (1, 1, 9), (2, 1, 69)]
  | 106 => .one (.nilFunc)
  | 107 => .one (.nilFunc)
  | 108 => .one (.nilFunc)
  | 109 => .one (.nilFunc)
  | 110 => .one (.pointer none)
  | 111 => .st [.string ⟨#[]⟩] [(0, 1, 9)]
  | 112 => .st [.string ⟨#[]⟩] [(0, 1, 9)]
  | 113 => .ar 32 5 1 [.int .u8 0, .int .u8 0, .int .u8 0, .int .u8 0, .int .u8 0, .int .u8 0, .int .u8 0, .int .u8 0, .int .u8 0, .int .u8 0, .int .u8 0, .int .u8 0, .int .u8 0, .int .u8 0, .int .u8 0, .int .u8 0, .int .u8 0, .int .u8 0, .int .u8 0, .int .u8 0, .int .u8 0, .int .u8 0, .int .u8 0, .int .u8 0, .int .u8 0, .int .u8 0, .int .u8 0, .int .u8 0, .int .u8 0, .int .u8 0, .int .u8 0, .int .u8 0]
  | 114 => .ar 64 5 1 [.int .u8 0, .int .u8 0, .int .u8 0, .int .u8 0, .int .u8 0, .int .u8 0, .int .u8 0, .int .u8 0, .int .u8 0, .int .u8 0, .int .u8 0, .int .u8 0, .int .u8 0, .int .u8 0, .int .u8 0, .int .u8 0, .int .u8 0, .int .u8 0, .int .u8 0, .int .u8 0, .int .u8 0, .int .u8 0, .int .u8 0, .int .u8 0, .int .u8 0, .int .u8 0, .int .u8 0, .int .u8 0, .int .u8 0, .int .u8 0, .int .u8 0, .int .u8 0, .int .u8 0, .int .u8 0, .int .u8 0, .int .u8 0, .int .u8 0, .int .u8 0, .int .u8 0, .int .u8 0, .int .u8 0, .int .u8 0, .int .u8 0, .int .u8 0, .int .u8 0, .int .u8 0, .int .u8 0, .int .u8 0, .int .u8 0, .int .u8 0, .int .u8 0, .int .u8 0, .int .u8 0, .int .u8 0, .int .u8 0, .int .u8 0, .int .u8 0, .int .u8 0, .int .u8 0, .int .u8 0, .int .u8 0, .int .u8 0, .int .u8 0, .int .u8 0]
  | 115 => .st [.pointer none, .pointer none, .pointer none, .string ⟨#[]⟩] [(0, 1, 17), (1, 1, 17), (2, 1, 17), (3, 1, 9)]
  | 116 => .st [.pointer none, .pointer none, .pointer none, .string ⟨#[]⟩] [(0, 1, 17), (1, 1, 17), (2, 1, 17), (3, 1, 9)]
  | 117 => .ar 0 16 1 []
  | 118 => .st [] [(0, 0, 117)]
  | 119 => .st [] [(0, 0, 117)]
  | 120 => .one (.int .u8 0)
  | 121 => .one (.int .u8 0)
  | 122 => .one (.nilFunc)
  | 123 => .one (.int .i32 0)
  | 124 => .one (.int .i32 0)
  | 125 => .st [.int .u64 0, .int .u64 0, .int .u32 0, .int .u8 0, .int .u8 0, .int .u8 0, .int .u8 0, .nilFunc, .pointer none, .int .i32 0, .int .i32 0] [(0, 1, 12), (1, 1, 12), (2, 1, 97), (3, 1, 120), (4, 1, 5), (5, 1, 5), (6, 1, 121), (7, 1, 122), (8, 1, 78), (9, 1, 123), (10, 1, 124)]
  | 126 => .st [.int .u64 0, .int .u64 0, .int .u32 0, .int .u8 0, .int .u8 0, .int .u8 0, .int .u8 0, .nilFunc, .pointer none, .int .i32 0, .int .i32 0] [(0, 1, 12), (1, 1, 12), (2, 1, 97), (3, 1, 120), (4, 1, 5), (5, 1, 5), (6, 1, 121), (7, 1, 122), (8, 1, 78), (9, 1, 123), (10, 1, 124)]
  | _ => .no
theorem ti1 : tiOf Tryd.prog 1 = ti 1 := by kernel_rfl
theorem ti2 : tiOf Tryd.prog 2 = ti 2 := by kernel_rfl
theorem ti3 : tiOf Tryd.prog 3 = ti 3 := by kernel_rfl
theorem ti4 : tiOf Tryd.prog 4 = ti 4 := by kernel_rfl
theorem ti5 : tiOf Tryd.prog 5 = ti 5 := by kernel_rfl
theorem ti6 : tiOf Tryd.prog 6 = ti 6 := by kernel_rfl
theorem ti7 : tiOf Tryd.prog 7 = ti 7 := by kernel_rfl
theorem ti8 : tiOf Tryd.prog 8 = ti 8 := by kernel_rfl
theorem ti9 : tiOf Tryd.prog 9 = ti 9 := by kernel_rfl
theorem ti10 : tiOf Tryd.prog 10 = ti 10 := by kernel_rfl
theorem ti11 : tiOf Tryd.prog 11 = ti 11 := by kernel_rfl
theorem ti12 : tiOf Tryd.prog 12 = ti 12 := by kernel_rfl
theorem ti13 : tiOf Tryd.prog 13 = ti 13 := by kernel_rfl
theorem ti14 : tiOf Tryd.prog 14 = ti 14 := by kernel_rfl
theorem ti15 : tiOf Tryd.prog 15 = ti 15 := by kernel_rfl
theorem ti16 : tiOf Tryd.prog 16 = ti 16 := by kernel_rfl
theorem ti17 : tiOf Tryd.prog 17 = ti 17 := by kernel_rfl
theorem ti18 : tiOf Tryd.prog 18 = ti 18 := by kernel_rfl
theorem ti19 : tiOf Tryd.prog 19 = ti 19 := by kernel_rfl
theorem ti20 : tiOf Tryd.prog 20 = ti 20 := by kernel_rfl
theorem ti21 : tiOf Tryd.prog 21 = ti 21 := by kernel_rfl
theorem ti22 : tiOf Tryd.prog 22 = ti 22 := by kernel_rfl
theorem ti23 : tiOf Tryd.prog 23 = ti 23 := by kernel_rfl
theorem ti24 : tiOf Tryd.prog 24 = ti 24 := by kernel_rfl
theorem ti25 : tiOf Tryd.prog 25 = ti 25 := by kernel_rfl
theorem ti26 : tiOf Tryd.prog 26 = ti 26 := by kernel_rfl
theorem ti27 : tiOf Tryd.prog 27 = ti 27 := by kernel_rfl
theorem ti28 : tiOf Tryd.prog 28 = ti 28 := by kernel_rfl
theorem ti29 : tiOf Tryd.prog 29 = ti 29 := by kernel_rfl
theorem ti30 : tiOf Tryd.prog 30 = ti 30 := by kernel_rfl
theorem ti31 : tiOf Tryd.prog 31 = ti 31 := by kernel_rfl
theorem ti32 : tiOf Tryd.prog 32 = ti 32 := by kernel_rfl
theorem ti33 : tiOf Tryd.prog 33 = ti 33 := by kernel_rfl
theorem ti34 : tiOf Tryd.prog 34 = ti 34 := by kernel_rfl
theorem ti35 : tiOf Tryd.prog 35 = ti 35 := by kernel_rfl
theorem ti36 : tiOf Tryd.prog 36 = ti 36 := by kernel_rfl
theorem ti37 : tiOf Tryd.prog 37 = ti 37 := by kernel_rfl
theorem ti38 : tiOf Tryd.prog 38 = ti 38 := by kernel_rfl
theorem ti39 : tiOf Tryd.prog 39 = ti 39 := by kernel_rfl
theorem ti40 : tiOf Tryd.prog 40 = ti 40 := by kernel_rfl
theorem ti41 : tiOf Tryd.prog 41 = ti 41 := by kernel_rfl
theorem ti42 : tiOf Tryd.prog 42 = ti 42 := by kernel_rfl
theorem ti43 : tiOf Tryd.prog 43 = ti 43 := by kernel_rfl
theorem ti44 : tiOf Tryd.prog 44 = ti 44 := by kernel_rfl
theorem ti45 : tiOf Tryd.prog 45 = ti 45 := by kernel_rfl
theorem ti46 : tiOf Tryd.prog 46 = ti 46 := by kernel_rfl
theorem ti47 : tiOf Tryd.prog 47 = ti 47 := by kernel_rfl
theorem ti48 : tiOf Tryd.prog 48 = ti 48 := by kernel_rfl
theorem ti49 : tiOf Tryd.prog 49 = ti 49 := by kernel_rfl
theorem ti50 : tiOf Tryd.prog 50 = ti 50 := by kernel_rfl
theorem ti51 : tiOf Tryd.prog 51 = ti 51 := by kernel_rfl
theorem ti52 : tiOf Tryd.prog 52 = ti 52 := by kernel_rfl
theorem ti53 : tiOf Tryd.prog 53 = ti 53 := by kernel_rfl
theorem ti54 : tiOf Tryd.prog 54 = ti 54 := by kernel_rfl
theorem ti55 : tiOf Tryd.prog 55 = ti 55 := by kernel_rfl
theorem ti56 : tiOf Tryd.prog 56 = ti 56 := by kernel_rfl
theorem ti57 : tiOf Tryd.prog 57 = ti 57 := by kernel_rfl
theorem ti58 : tiOf Tryd.prog 58 = ti 58 := by kernel_rfl
theorem ti59 : tiOf Tryd.prog 59 = ti 59 := by kernel_rfl
theorem ti60 : tiOf Tryd.prog 60 = ti 60 := by kernel_rfl
theorem ti61 : tiOf Tryd.prog 61 = ti 61 := by kernel_rfl
theorem ti62 : tiOf Tryd.prog 62 = ti 62 := by kernel_rfl
theorem ti63 : tiOf Tryd.prog 63 = ti 63 := by kernel_rfl
theorem ti64 : tiOf Tryd.prog 64 = ti 64 := by kernel_rfl
theorem ti65 : tiOf Tryd.prog 65 = ti 65 := by kernel_rfl
theorem ti66 : tiOf Tryd.prog 66 = ti 66 := by kernel_rfl
theorem ti67 : tiOf Tryd.prog 67 = ti 67 := by kernel_rfl
theorem ti68 : tiOf Tryd.prog 68 = ti 68 := by kernel_rfl
theorem ti69 : tiOf Tryd.prog 69 = ti 69 := by kernel_rfl
theorem ti71 : tiOf Tryd.prog 71 = ti 71 := by kernel_rfl
theorem ti72 : tiOf Tryd.prog 72 = ti 72 := by kernel_rfl
theorem ti74 : tiOf Tryd.prog 74 = ti 74 := by kernel_rfl
theorem ti76 : tiOf Tryd.prog 76 = ti 76 := by kernel_rfl
theorem ti77 : tiOf Tryd.prog 77 = ti 77 := by kernel_rfl
theorem ti78 : tiOf Tryd.prog 78 = ti 78 := by kernel_rfl
theorem ti79 : tiOf Tryd.prog 79 = ti 79 := by kernel_rfl
theorem ti80 : tiOf Tryd.prog 80 = ti 80 := by kernel_rfl
theorem ti81 : tiOf Tryd.prog 81 = ti 81 := by kernel_rfl
theorem ti82 : tiOf Tryd.prog 82 = ti 82 := by kernel_rfl
theorem ti83 : tiOf Tryd.prog 83 = ti 83 := by kernel_rfl
theorem ti85 : tiOf Tryd.prog 85 = ti 85 := by kernel_rfl
theorem ti86 : tiOf Tryd.prog 86 = ti 86 := by kernel_rfl
theorem ti87 : tiOf Tryd.prog 87 = ti 87 := by kernel_rfl
theorem ti88 : tiOf Tryd.prog 88 = ti 88 := by kernel_rfl
theorem ti90 : tiOf Tryd.prog 90 = ti 90 := by kernel_rfl
theorem ti91 : tiOf Tryd.prog 91 = ti 91 := by kernel_rfl
theorem ti92 : tiOf Tryd.prog 92 = ti 92 := by kernel_rfl
theorem ti93 : tiOf Tryd.prog 93 = ti 93 := by kernel_rfl
theorem ti94 : tiOf Tryd.prog 94 = ti 94 := by kernel_rfl
theorem ti95 : tiOf Tryd.prog 95 = ti 95 := by kernel_rfl
theorem ti96 : tiOf Tryd.prog 96 = ti 96 := by kernel_rfl
theorem ti97 : tiOf Tryd.prog 97 = ti 97 := by kernel_rfl
theorem ti99 : tiOf Tryd.prog 99 = ti 99 := by kernel_rfl
theorem ti100 : tiOf Tryd.prog 100 = ti 100 := by kernel_rfl
theorem ti101 : tiOf Tryd.prog 101 = ti 101 := by kernel_rfl
theorem ti103 : tiOf Tryd.prog 103 = ti 103 := by kernel_rfl
theorem ti104 : tiOf Tryd.prog 104 = ti 104 := by kernel_rfl
theorem ti105 : tiOf Tryd.prog 105 = ti 105 := by kernel_rfl
theorem ti106 : tiOf Tryd.prog 106 = ti 106 := by kernel_rfl
theorem ti107 : tiOf Tryd.prog 107 = ti 107 := by kernel_rfl
theorem ti108 : tiOf Tryd.prog 108 = ti 108 := by kernel_rfl
theorem ti109 : tiOf Tryd.prog 109 = ti 109 := by kernel_rfl
theorem ti110 : tiOf Tryd.prog 110 = ti 110 := by kernel_rfl
theorem ti111 : tiOf Tryd.prog 111 = ti 111 := by kernel_rfl
theorem ti112 : tiOf Tryd.prog 112 = ti 112 := by kernel_rfl
theorem ti113 : tiOf Tryd.prog 113 = ti 113 := by kernel_rfl
theorem ti114 : tiOf Tryd.prog 114 = ti 114 := by kernel_rfl
theorem ti115 : tiOf Tryd.prog 115 = ti 115 := by kernel_rfl
theorem ti116 : tiOf Tryd.prog 116 = ti 116 := by kernel_rfl
theorem ti117 : tiOf Tryd.prog 117 = ti 117 := by kernel_rfl
theorem ti118 : tiOf Tryd.prog 118 = ti 118 := by kernel_rfl
theorem ti119 : tiOf Tryd.prog 119 = ti 119 := by kernel_rfl
theorem ti120 : tiOf Tryd.prog 120 = ti 120 := by kernel_rfl
theorem ti121 : tiOf Tryd.prog 121 = ti 121 := by kernel_rfl
theorem ti122 : tiOf Tryd.prog 122 = ti 122 := by kernel_rfl
theorem ti123 : tiOf Tryd.prog 123 = ti 123 := by kernel_rfl
theorem ti124 : tiOf Tryd.prog 124 = ti 124 := by kernel_rfl
theorem ti125 : tiOf Tryd.prog 125 = ti 125 := by kernel_rfl
theorem ti126 : tiOf Tryd.prog 126 = ti 126 := by kernel_rfl
theorem tiok : ∀ t, ti t ≠ .no → tiOf Tryd.prog t = ti t := by
  intro t h
  unfold ti at h
  split at h
  · exact ti1
  · exact ti2
  · exact ti3
  · exact ti4
  · exact ti5
  · exact ti6
  · exact ti7
  · exact ti8
  · exact ti9
  · exact ti10
  · exact ti11
  · exact ti12
  · exact ti13
  · exact ti14
  · exact ti15
  · exact ti16
  · exact ti17
  · exact ti18
  · exact ti19
  · exact ti20
  · exact ti21
  · exact ti22
  · exact ti23
  · exact ti24
  · exact ti25
  · exact ti26
  · exact ti27
  · exact ti28
  · exact ti29
  · exact ti30
  · exact ti31
  · exact ti32
  · exact ti33
  · exact ti34
  · exact ti35
  · exact ti36
  · exact ti37
  · exact ti38
  · exact ti39
  · exact ti40
  · exact ti41
  · exact ti42
  · exact ti43
  · exact ti44
  · exact ti45
  · exact ti46
  · exact ti47
  · exact ti48
  · exact ti49
  · exact ti50
  · exact ti51
  · exact ti52
  · exact ti53
  · exact ti54
  · exact ti55
  · exact ti56
  · exact ti57
  · exact ti58
  · exact ti59
  · exact ti60
  · exact ti61
  · exact ti62
  · exact ti63
  · exact ti64
  · exact ti65
  · exact ti66
  · exact ti67
  · exact ti68
  · exact ti69
  · exact ti71
  · exact ti72
  · exact ti74
  · exact ti76
  · exact ti77
  · exact ti78
  · exact ti79
  · exact ti80
  · exact ti81
  · exact ti82
  · exact ti83
  · exact ti85
  · exact ti86
  · exact ti87
  · exact ti88
  · exact ti90
  · exact ti91
  · exact ti92
  · exact ti93
  · exact ti94
  · exact ti95
  · exact ti96
  · exact ti97
  · exact ti99
  · exact ti100
  · exact ti101
  · exact ti103
  · exact ti104
  · exact ti105
  · exact ti106
  · exact ti107
  · exact ti108
  · exact ti109
  · exact ti110
  · exact ti111
  · exact ti112
  · exact ti113
  · exact ti114
  · exact ti115
  · exact ti116
  · exact ti117
  · exact ti118
  · exact ti119
  · exact ti120
  · exact ti121
  · exact ti122
  · exact ti123
  · exact ti124
  · exact ti125
  · exact ti126
  · exact absurd rfl h
def ki : Nat → Option IntKind
  | 2 => some .i64
  | 3 => some .i64
  | 5 => some .u8
  | 6 => some .u8
  | 12 => some .u64
  | 21 => some .i32
  | 81 => some .u64
  | 88 => some .i64
  | 97 => some .u32
  | 100 => some .u64
  | 120 => some .u8
  | 121 => some .u8
  | 123 => some .i32
  | 124 => some .i32
  | _ => none
theorem ki2 : Tryd.prog.underlying 2 = some (.int .i64) := by kernel_rfl
theorem ki3 : Tryd.prog.underlying 3 = some (.int .i64) := by kernel_rfl
theorem ki5 : Tryd.prog.underlying 5 = some (.int .u8) := by kernel_rfl
theorem ki6 : Tryd.prog.underlying 6 = some (.int .u8) := by kernel_rfl
theorem ki12 : Tryd.prog.underlying 12 = some (.int .u64) := by kernel_rfl
theorem ki21 : Tryd.prog.underlying 21 = some (.int .i32) := by kernel_rfl
theorem ki81 : Tryd.prog.underlying 81 = some (.int .u64) := by kernel_rfl
theorem ki88 : Tryd.prog.underlying 88 = some (.int .i64) := by kernel_rfl
theorem ki97 : Tryd.prog.underlying 97 = some (.int .u32) := by kernel_rfl
theorem ki100 : Tryd.prog.underlying 100 = some (.int .u64) := by kernel_rfl
theorem ki120 : Tryd.prog.underlying 120 = some (.int .u8) := by kernel_rfl
theorem ki121 : Tryd.prog.underlying 121 = some (.int .u8) := by kernel_rfl
theorem ki123 : Tryd.prog.underlying 123 = some (.int .i32) := by kernel_rfl
theorem ki124 : Tryd.prog.underlying 124 = some (.int .i32) := by kernel_rfl
theorem kiok : ∀ t k, ki t = some k → Tryd.prog.underlying t = some (.int k) := by
  intro t k h
  unfold ki at h
  split at h
  · cases h; exact ki2
  · cases h; exact ki3
  · cases h; exact ki5
  · cases h; exact ki6
  · cases h; exact ki12
  · cases h; exact ki21
  · cases h; exact ki81
  · cases h; exact ki88
  · cases h; exact ki97
  · cases h; exact ki100
  · cases h; exact ki120
  · cases h; exact ki121
  · cases h; exact ki123
  · cases h; exact ki124
  · cases h
end Go.Proofs.YtliagfabkkcohaaDoor
