/- The type table of the program, entry by entry, as the walks read it. Conditions: none, each entry is computed by the kernel. -/
import Derived.Test.YtnhpgmmhfgdmjaaGreatProg
import Derived.Test.YtnhpgmmhfgdmjaaGreatEvX
import Derived.Test.YtnhpgmmhfgdmjaaGreatEvT
set_option linter.unusedSimpArgs false
set_option linter.unusedVariables false
open Go Go.Proofs Go.Ev
namespace Go.Proofs.YtnhpgmmhfgdmjaaGreat.P14
set_option maxRecDepth 100000
@[go_sem] theorem ty2 : tyOf Tryz.prog 2 = ⟨(.int .i64), 1, 8⟩ := by kernel_rfl
@[go_sem] theorem ze2 : zeroOf Tryz.prog 2 = some (.int .i64 0) := by kernel_rfl
@[go_sem] theorem ty3 : tyOf Tryz.prog 3 = ⟨(.int .i64), 1, 8⟩ := by kernel_rfl
@[go_sem] theorem ze3 : zeroOf Tryz.prog 3 = some (.int .i64 0) := by kernel_rfl
@[go_sem] theorem ty4 : tyOf Tryz.prog 4 = ⟨.bool, 1, 1⟩ := by kernel_rfl
@[go_sem] theorem ze4 : zeroOf Tryz.prog 4 = some (.bool false) := by kernel_rfl
@[go_sem] theorem ty5 : tyOf Tryz.prog 5 = ⟨(.int .u8), 1, 1⟩ := by kernel_rfl
@[go_sem] theorem ze5 : zeroOf Tryz.prog 5 = some (.int .u8 0) := by kernel_rfl
@[go_sem] theorem ty6 : tyOf Tryz.prog 6 = ⟨(.int .u8), 1, 1⟩ := by kernel_rfl
@[go_sem] theorem ze6 : zeroOf Tryz.prog 6 = some (.int .u8 0) := by kernel_rfl
@[go_sem] theorem ty7 : tyOf Tryz.prog 7 = ⟨(.struct [(0, 2), (1, 3), (2, 4), (3, 6)]), 4, 24⟩ := by kernel_rfl
@[go_sem] theorem ze7 : zeroOf Tryz.prog 7 = some (.agg [(.int .i64 0), (.int .i64 0), (.bool false), (.int .u8 0)]) := by kernel_rfl
@[go_sem] theorem ty8 : tyOf Tryz.prog 8 = ⟨(.struct [(0, 2), (1, 3), (2, 4), (3, 6)]), 4, 24⟩ := by kernel_rfl
@[go_sem] theorem ze8 : zeroOf Tryz.prog 8 = some (.agg [(.int .i64 0), (.int .i64 0), (.bool false), (.int .u8 0)]) := by kernel_rfl
@[go_sem] theorem ty9 : tyOf Tryz.prog 9 = ⟨.str, 1, 16⟩ := by kernel_rfl
@[go_sem] theorem ze9 : zeroOf Tryz.prog 9 = some (.str ⟨#[]⟩) := by kernel_rfl
@[go_sem] theorem ty10 : tyOf Tryz.prog 10 = ⟨.str, 1, 16⟩ := by kernel_rfl
@[go_sem] theorem ze10 : zeroOf Tryz.prog 10 = some (.str ⟨#[]⟩) := by kernel_rfl
@[go_sem] theorem ty11 : tyOf Tryz.prog 11 = ⟨.str, 1, 16⟩ := by kernel_rfl
@[go_sem] theorem ze11 : zeroOf Tryz.prog 11 = some (.str ⟨#[]⟩) := by kernel_rfl
@[go_sem] theorem ty12 : tyOf Tryz.prog 12 = ⟨(.int .u64), 1, 8⟩ := by kernel_rfl
@[go_sem] theorem ze12 : zeroOf Tryz.prog 12 = some (.int .u64 0) := by kernel_rfl
@[go_sem] theorem ty13 : tyOf Tryz.prog 13 = ⟨(.struct [(0, 9), (1, 12)]), 2, 24⟩ := by kernel_rfl
@[go_sem] theorem ze13 : zeroOf Tryz.prog 13 = some (.agg [(.str ⟨#[]⟩), (.int .u64 0)]) := by kernel_rfl
@[go_sem] theorem ty14 : tyOf Tryz.prog 14 = ⟨(.struct [(0, 9), (1, 12)]), 2, 24⟩ := by kernel_rfl
@[go_sem] theorem ze14 : zeroOf Tryz.prog 14 = some (.agg [(.str ⟨#[]⟩), (.int .u64 0)]) := by kernel_rfl
@[go_sem] theorem ty15 : tyOf Tryz.prog 15 = ⟨(.ptr 126), 1, 8⟩ := by kernel_rfl
@[go_sem] theorem ze15 : zeroOf Tryz.prog 15 = some .null := by kernel_rfl
@[go_sem] theorem ty16 : tyOf Tryz.prog 16 = ⟨(.ptr 129), 1, 8⟩ := by kernel_rfl
@[go_sem] theorem ze16 : zeroOf Tryz.prog 16 = some .null := by kernel_rfl
@[go_sem] theorem ty17 : tyOf Tryz.prog 17 = ⟨(.ptr 137), 1, 8⟩ := by kernel_rfl
@[go_sem] theorem ze17 : zeroOf Tryz.prog 17 = some .null := by kernel_rfl
@[go_sem] theorem ty18 : tyOf Tryz.prog 18 = ⟨(.struct [(0, 17)]), 1, 8⟩ := by kernel_rfl
@[go_sem] theorem ze18 : zeroOf Tryz.prog 18 = some (.agg [.null]) := by kernel_rfl
@[go_sem] theorem ty19 : tyOf Tryz.prog 19 = ⟨(.struct [(0, 17)]), 1, 8⟩ := by kernel_rfl
@[go_sem] theorem ze19 : zeroOf Tryz.prog 19 = some (.agg [.null]) := by kernel_rfl
@[go_sem] theorem ty20 : tyOf Tryz.prog 20 = ⟨(.iface true), 1, 16⟩ := by kernel_rfl
@[go_sem] theorem ze20 : zeroOf Tryz.prog 20 = some .if0 := by kernel_rfl
@[go_sem] theorem ty21 : tyOf Tryz.prog 21 = ⟨(.int .i32), 1, 4⟩ := by kernel_rfl
@[go_sem] theorem ze21 : zeroOf Tryz.prog 21 = some (.int .i32 0) := by kernel_rfl
@[go_sem] theorem ty22 : tyOf Tryz.prog 22 = ⟨(.slice 9), 1, 24⟩ := by kernel_rfl
@[go_sem] theorem ze22 : zeroOf Tryz.prog 22 = some .nil := by kernel_rfl
@[go_sem] theorem ty23 : tyOf Tryz.prog 23 = ⟨(.slice 3), 1, 24⟩ := by kernel_rfl
@[go_sem] theorem ze23 : zeroOf Tryz.prog 23 = some .nil := by kernel_rfl
@[go_sem] theorem ty24 : tyOf Tryz.prog 24 = ⟨(.struct [(0, 3), (1, 3), (2, 3), (3, 9), (4, 22), (5, 23), (6, 3), (7, 3), (8, 22), (9, 3), (10, 9), (11, 3), (12, 3), (13, 3), (14, 3), (15, 23), (16, 3)]), 17, 216⟩ := by kernel_rfl
@[go_sem] theorem ze24 : zeroOf Tryz.prog 24 = some (.agg [(.int .i64 0), (.int .i64 0), (.int .i64 0), (.str ⟨#[]⟩), .nil, .nil, (.int .i64 0), (.int .i64 0), .nil, (.int .i64 0), (.str ⟨#[]⟩), (.int .i64 0), (.int .i64 0), (.int .i64 0), (.int .i64 0), .nil, (.int .i64 0)]) := by kernel_rfl
@[go_sem] theorem ty25 : tyOf Tryz.prog 25 = ⟨(.struct [(0, 3), (1, 3), (2, 3), (3, 9), (4, 22), (5, 23), (6, 3), (7, 3), (8, 22), (9, 3), (10, 9), (11, 3), (12, 3), (13, 3), (14, 3), (15, 23), (16, 3)]), 17, 216⟩ := by kernel_rfl
@[go_sem] theorem ze25 : zeroOf Tryz.prog 25 = some (.agg [(.int .i64 0), (.int .i64 0), (.int .i64 0), (.str ⟨#[]⟩), .nil, .nil, (.int .i64 0), (.int .i64 0), .nil, (.int .i64 0), (.str ⟨#[]⟩), (.int .i64 0), (.int .i64 0), (.int .i64 0), (.int .i64 0), .nil, (.int .i64 0)]) := by kernel_rfl
@[go_sem] theorem ty26 : tyOf Tryz.prog 26 = ⟨(.slice 28), 1, 24⟩ := by kernel_rfl
@[go_sem] theorem ze26 : zeroOf Tryz.prog 26 = some .nil := by kernel_rfl
@[go_sem] theorem ty27 : tyOf Tryz.prog 27 = ⟨(.struct [(0, 3), (1, 3), (2, 2), (3, 9), (4, 26)]), 5, 64⟩ := by kernel_rfl
@[go_sem] theorem ze27 : zeroOf Tryz.prog 27 = some (.agg [(.int .i64 0), (.int .i64 0), (.int .i64 0), (.str ⟨#[]⟩), .nil]) := by kernel_rfl
@[go_sem] theorem ty28 : tyOf Tryz.prog 28 = ⟨(.struct [(0, 3), (1, 3), (2, 2), (3, 9), (4, 26)]), 5, 64⟩ := by kernel_rfl
@[go_sem] theorem ze28 : zeroOf Tryz.prog 28 = some (.agg [(.int .i64 0), (.int .i64 0), (.int .i64 0), (.str ⟨#[]⟩), .nil]) := by kernel_rfl
@[go_sem] theorem ty29 : tyOf Tryz.prog 29 = ⟨(.int .i64), 1, 8⟩ := by kernel_rfl
@[go_sem] theorem ze29 : zeroOf Tryz.prog 29 = some (.int .i64 0) := by kernel_rfl
@[go_sem] theorem ty36 : tyOf Tryz.prog 36 = ⟨(.int .u64), 1, 8⟩ := by kernel_rfl
@[go_sem] theorem ze36 : zeroOf Tryz.prog 36 = some (.int .u64 0) := by kernel_rfl
@[go_sem] theorem ty49 : tyOf Tryz.prog 49 = ⟨(.ptr 51), 1, 8⟩ := by kernel_rfl
@[go_sem] theorem ze49 : zeroOf Tryz.prog 49 = some .null := by kernel_rfl
@[go_sem] theorem ty50 : tyOf Tryz.prog 50 = ⟨(.struct [(0, 26), (1, 3), (2, 4)]), 3, 40⟩ := by kernel_rfl
@[go_sem] theorem ze50 : zeroOf Tryz.prog 50 = some (.agg [.nil, (.int .i64 0), (.bool false)]) := by kernel_rfl
@[go_sem] theorem ty51 : tyOf Tryz.prog 51 = ⟨(.struct [(0, 26), (1, 3), (2, 4)]), 3, 40⟩ := by kernel_rfl
@[go_sem] theorem ze51 : zeroOf Tryz.prog 51 = some (.agg [.nil, (.int .i64 0), (.bool false)]) := by kernel_rfl
@[go_sem] theorem ty59 : tyOf Tryz.prog 59 = ⟨(.slice 5), 1, 24⟩ := by kernel_rfl
@[go_sem] theorem ze59 : zeroOf Tryz.prog 59 = some .nil := by kernel_rfl
@[go_sem] theorem ty90 : tyOf Tryz.prog 90 = ⟨(.array 5 9), 5, 80⟩ := by kernel_rfl
@[go_sem] theorem ze90 : zeroOf Tryz.prog 90 = some (.agg [(.str ⟨#[]⟩), (.str ⟨#[]⟩), (.str ⟨#[]⟩), (.str ⟨#[]⟩), (.str ⟨#[]⟩)]) := by kernel_rfl
@[go_sem] theorem ty95 : tyOf Tryz.prog 95 = ⟨(.int .u64), 1, 8⟩ := by kernel_rfl
@[go_sem] theorem ze95 : zeroOf Tryz.prog 95 = some (.int .u64 0) := by kernel_rfl
@[go_sem] theorem ty102 : tyOf Tryz.prog 102 = ⟨(.int .i64), 1, 8⟩ := by kernel_rfl
@[go_sem] theorem ze102 : zeroOf Tryz.prog 102 = some (.int .i64 0) := by kernel_rfl
@[go_sem] theorem ty110 : tyOf Tryz.prog 110 = ⟨(.int .u32), 1, 4⟩ := by kernel_rfl
@[go_sem] theorem ze110 : zeroOf Tryz.prog 110 = some (.int .u32 0) := by kernel_rfl
@[go_sem] theorem ty112 : tyOf Tryz.prog 112 = ⟨(.int .u64), 1, 8⟩ := by kernel_rfl
@[go_sem] theorem ze112 : zeroOf Tryz.prog 112 = some (.int .u64 0) := by kernel_rfl
@[go_sem] theorem ty116 : tyOf Tryz.prog 116 = ⟨(.ptr 3), 1, 8⟩ := by kernel_rfl
@[go_sem] theorem ze116 : zeroOf Tryz.prog 116 = some .null := by kernel_rfl
@[go_sem] theorem ty120 : tyOf Tryz.prog 120 = ⟨(.ptr 112), 1, 8⟩ := by kernel_rfl
@[go_sem] theorem ze120 : zeroOf Tryz.prog 120 = some .null := by kernel_rfl
@[go_sem] theorem ty125 : tyOf Tryz.prog 125 = ⟨(.struct [(0, 17), (1, 17), (2, 17), (3, 9)]), 4, 40⟩ := by kernel_rfl
@[go_sem] theorem ze125 : zeroOf Tryz.prog 125 = some (.agg [.null, .null, .null, (.str ⟨#[]⟩)]) := by kernel_rfl
@[go_sem] theorem ty126 : tyOf Tryz.prog 126 = ⟨(.struct [(0, 17), (1, 17), (2, 17), (3, 9)]), 4, 40⟩ := by kernel_rfl
@[go_sem] theorem ze126 : zeroOf Tryz.prog 126 = some (.agg [.null, .null, .null, (.str ⟨#[]⟩)]) := by kernel_rfl
@[go_sem] theorem ty127 : tyOf Tryz.prog 127 = ⟨(.array 0 16), 0, 0⟩ := by kernel_rfl
@[go_sem] theorem ze127 : zeroOf Tryz.prog 127 = some (.agg []) := by kernel_rfl
@[go_sem] theorem ty128 : tyOf Tryz.prog 128 = ⟨(.struct [(0, 127)]), 0, 0⟩ := by kernel_rfl
@[go_sem] theorem ze128 : zeroOf Tryz.prog 128 = some (.agg []) := by kernel_rfl
@[go_sem] theorem ty129 : tyOf Tryz.prog 129 = ⟨(.struct [(0, 127)]), 0, 0⟩ := by kernel_rfl
@[go_sem] theorem ze129 : zeroOf Tryz.prog 129 = some (.agg []) := by kernel_rfl
@[go_sem] theorem ty130 : tyOf Tryz.prog 130 = ⟨(.int .u8), 1, 1⟩ := by kernel_rfl
@[go_sem] theorem ze130 : zeroOf Tryz.prog 130 = some (.int .u8 0) := by kernel_rfl
@[go_sem] theorem ty131 : tyOf Tryz.prog 131 = ⟨(.int .u8), 1, 1⟩ := by kernel_rfl
@[go_sem] theorem ze131 : zeroOf Tryz.prog 131 = some (.int .u8 0) := by kernel_rfl
@[go_sem] theorem ty133 : tyOf Tryz.prog 133 = ⟨(.ptr 5), 1, 8⟩ := by kernel_rfl
@[go_sem] theorem ze133 : zeroOf Tryz.prog 133 = some .null := by kernel_rfl
@[go_sem] theorem ty134 : tyOf Tryz.prog 134 = ⟨(.int .i32), 1, 4⟩ := by kernel_rfl
@[go_sem] theorem ze134 : zeroOf Tryz.prog 134 = some (.int .i32 0) := by kernel_rfl
@[go_sem] theorem ty135 : tyOf Tryz.prog 135 = ⟨(.int .i32), 1, 4⟩ := by kernel_rfl
@[go_sem] theorem ze135 : zeroOf Tryz.prog 135 = some (.int .i32 0) := by kernel_rfl
@[go_sem] theorem ty136 : tyOf Tryz.prog 136 = ⟨(.struct [(0, 12), (1, 12), (2, 110), (3, 130), (4, 5), (5, 5), (6, 131), (7, 132), (8, 133), (9, 134), (10, 135)]), 11, 48⟩ := by kernel_rfl
@[go_sem] theorem ze136 : zeroOf Tryz.prog 136 = some (.agg [(.int .u64 0), (.int .u64 0), (.int .u32 0), (.int .u8 0), (.int .u8 0), (.int .u8 0), (.int .u8 0), .fn0, .null, (.int .i32 0), (.int .i32 0)]) := by kernel_rfl
@[go_sem] theorem ty137 : tyOf Tryz.prog 137 = ⟨(.struct [(0, 12), (1, 12), (2, 110), (3, 130), (4, 5), (5, 5), (6, 131), (7, 132), (8, 133), (9, 134), (10, 135)]), 11, 48⟩ := by kernel_rfl
@[go_sem] theorem ze137 : zeroOf Tryz.prog 137 = some (.agg [(.int .u64 0), (.int .u64 0), (.int .u32 0), (.int .u8 0), (.int .u8 0), (.int .u8 0), (.int .u8 0), .fn0, .null, (.int .i32 0), (.int .i32 0)]) := by kernel_rfl
end Go.Proofs.YtnhpgmmhfgdmjaaGreat.P14
