/- The type table of the program, entry by entry, as the walks read it. Conditions: none, each entry is computed by the kernel. -/
import Derived.Test.YtnhpgmmhfgdmjaaProg
import Derived.Test.YtnhpgmmhfgdmjaaEvX
import Derived.Test.YtnhpgmmhfgdmjaaEvT
set_option linter.unusedSimpArgs false
set_option linter.unusedVariables false
open Go Go.Proofs Go.Ev
namespace Go.Proofs.Ytnhpgmmhfgdmjaa.P14
set_option maxRecDepth 100000
@[go_sem] theorem ty2 : tyOf Try.prog 2 = ⟨(.int .i64), 1, 8⟩ := by kernel_rfl
@[go_sem] theorem ze2 : zeroOf Try.prog 2 = some (.int .i64 0) := by kernel_rfl
@[go_sem] theorem ty3 : tyOf Try.prog 3 = ⟨(.int .i64), 1, 8⟩ := by kernel_rfl
@[go_sem] theorem ze3 : zeroOf Try.prog 3 = some (.int .i64 0) := by kernel_rfl
@[go_sem] theorem ty4 : tyOf Try.prog 4 = ⟨.bool, 1, 1⟩ := by kernel_rfl
@[go_sem] theorem ze4 : zeroOf Try.prog 4 = some (.bool false) := by kernel_rfl
@[go_sem] theorem ty5 : tyOf Try.prog 5 = ⟨(.int .u8), 1, 1⟩ := by kernel_rfl
@[go_sem] theorem ze5 : zeroOf Try.prog 5 = some (.int .u8 0) := by kernel_rfl
@[go_sem] theorem ty6 : tyOf Try.prog 6 = ⟨(.int .u8), 1, 1⟩ := by kernel_rfl
@[go_sem] theorem ze6 : zeroOf Try.prog 6 = some (.int .u8 0) := by kernel_rfl
@[go_sem] theorem ty7 : tyOf Try.prog 7 = ⟨(.struct [(0, 2), (1, 3), (2, 4), (3, 6)]), 4, 24⟩ := by kernel_rfl
@[go_sem] theorem ze7 : zeroOf Try.prog 7 = some (.agg [(.int .i64 0), (.int .i64 0), (.bool false), (.int .u8 0)]) := by kernel_rfl
@[go_sem] theorem ty8 : tyOf Try.prog 8 = ⟨(.struct [(0, 2), (1, 3), (2, 4), (3, 6)]), 4, 24⟩ := by kernel_rfl
@[go_sem] theorem ze8 : zeroOf Try.prog 8 = some (.agg [(.int .i64 0), (.int .i64 0), (.bool false), (.int .u8 0)]) := by kernel_rfl
@[go_sem] theorem ty9 : tyOf Try.prog 9 = ⟨.str, 1, 16⟩ := by kernel_rfl
@[go_sem] theorem ze9 : zeroOf Try.prog 9 = some (.str ⟨#[]⟩) := by kernel_rfl
@[go_sem] theorem ty10 : tyOf Try.prog 10 = ⟨.str, 1, 16⟩ := by kernel_rfl
@[go_sem] theorem ze10 : zeroOf Try.prog 10 = some (.str ⟨#[]⟩) := by kernel_rfl
@[go_sem] theorem ty11 : tyOf Try.prog 11 = ⟨.str, 1, 16⟩ := by kernel_rfl
@[go_sem] theorem ze11 : zeroOf Try.prog 11 = some (.str ⟨#[]⟩) := by kernel_rfl
@[go_sem] theorem ty12 : tyOf Try.prog 12 = ⟨(.int .u64), 1, 8⟩ := by kernel_rfl
@[go_sem] theorem ze12 : zeroOf Try.prog 12 = some (.int .u64 0) := by kernel_rfl
@[go_sem] theorem ty13 : tyOf Try.prog 13 = ⟨(.struct [(0, 9), (1, 12)]), 2, 24⟩ := by kernel_rfl
@[go_sem] theorem ze13 : zeroOf Try.prog 13 = some (.agg [(.str ⟨#[]⟩), (.int .u64 0)]) := by kernel_rfl
@[go_sem] theorem ty14 : tyOf Try.prog 14 = ⟨(.struct [(0, 9), (1, 12)]), 2, 24⟩ := by kernel_rfl
@[go_sem] theorem ze14 : zeroOf Try.prog 14 = some (.agg [(.str ⟨#[]⟩), (.int .u64 0)]) := by kernel_rfl
@[go_sem] theorem ty15 : tyOf Try.prog 15 = ⟨(.ptr 122), 1, 8⟩ := by kernel_rfl
@[go_sem] theorem ze15 : zeroOf Try.prog 15 = some .null := by kernel_rfl
@[go_sem] theorem ty16 : tyOf Try.prog 16 = ⟨(.ptr 125), 1, 8⟩ := by kernel_rfl
@[go_sem] theorem ze16 : zeroOf Try.prog 16 = some .null := by kernel_rfl
@[go_sem] theorem ty17 : tyOf Try.prog 17 = ⟨(.ptr 133), 1, 8⟩ := by kernel_rfl
@[go_sem] theorem ze17 : zeroOf Try.prog 17 = some .null := by kernel_rfl
@[go_sem] theorem ty18 : tyOf Try.prog 18 = ⟨(.struct [(0, 17)]), 1, 8⟩ := by kernel_rfl
@[go_sem] theorem ze18 : zeroOf Try.prog 18 = some (.agg [.null]) := by kernel_rfl
@[go_sem] theorem ty19 : tyOf Try.prog 19 = ⟨(.struct [(0, 17)]), 1, 8⟩ := by kernel_rfl
@[go_sem] theorem ze19 : zeroOf Try.prog 19 = some (.agg [.null]) := by kernel_rfl
@[go_sem] theorem ty20 : tyOf Try.prog 20 = ⟨(.iface true), 1, 16⟩ := by kernel_rfl
@[go_sem] theorem ze20 : zeroOf Try.prog 20 = some .if0 := by kernel_rfl
@[go_sem] theorem ty21 : tyOf Try.prog 21 = ⟨(.int .i32), 1, 4⟩ := by kernel_rfl
@[go_sem] theorem ze21 : zeroOf Try.prog 21 = some (.int .i32 0) := by kernel_rfl
@[go_sem] theorem ty22 : tyOf Try.prog 22 = ⟨(.slice 9), 1, 24⟩ := by kernel_rfl
@[go_sem] theorem ze22 : zeroOf Try.prog 22 = some .nil := by kernel_rfl
@[go_sem] theorem ty23 : tyOf Try.prog 23 = ⟨(.slice 3), 1, 24⟩ := by kernel_rfl
@[go_sem] theorem ze23 : zeroOf Try.prog 23 = some .nil := by kernel_rfl
@[go_sem] theorem ty24 : tyOf Try.prog 24 = ⟨(.struct [(0, 3), (1, 3), (2, 3), (3, 9), (4, 22), (5, 23), (6, 3), (7, 3), (8, 22), (9, 3), (10, 9), (11, 3), (12, 3), (13, 3), (14, 3), (15, 23), (16, 3)]), 17, 216⟩ := by kernel_rfl
@[go_sem] theorem ze24 : zeroOf Try.prog 24 = some (.agg [(.int .i64 0), (.int .i64 0), (.int .i64 0), (.str ⟨#[]⟩), .nil, .nil, (.int .i64 0), (.int .i64 0), .nil, (.int .i64 0), (.str ⟨#[]⟩), (.int .i64 0), (.int .i64 0), (.int .i64 0), (.int .i64 0), .nil, (.int .i64 0)]) := by kernel_rfl
@[go_sem] theorem ty25 : tyOf Try.prog 25 = ⟨(.struct [(0, 3), (1, 3), (2, 3), (3, 9), (4, 22), (5, 23), (6, 3), (7, 3), (8, 22), (9, 3), (10, 9), (11, 3), (12, 3), (13, 3), (14, 3), (15, 23), (16, 3)]), 17, 216⟩ := by kernel_rfl
@[go_sem] theorem ze25 : zeroOf Try.prog 25 = some (.agg [(.int .i64 0), (.int .i64 0), (.int .i64 0), (.str ⟨#[]⟩), .nil, .nil, (.int .i64 0), (.int .i64 0), .nil, (.int .i64 0), (.str ⟨#[]⟩), (.int .i64 0), (.int .i64 0), (.int .i64 0), (.int .i64 0), .nil, (.int .i64 0)]) := by kernel_rfl
@[go_sem] theorem ty29 : tyOf Try.prog 29 = ⟨(.int .i64), 1, 8⟩ := by kernel_rfl
@[go_sem] theorem ze29 : zeroOf Try.prog 29 = some (.int .i64 0) := by kernel_rfl
@[go_sem] theorem ty34 : tyOf Try.prog 34 = ⟨(.slice 36), 1, 24⟩ := by kernel_rfl
@[go_sem] theorem ze34 : zeroOf Try.prog 34 = some .nil := by kernel_rfl
@[go_sem] theorem ty35 : tyOf Try.prog 35 = ⟨(.struct [(0, 3), (1, 3), (2, 2), (3, 9), (4, 34)]), 5, 64⟩ := by kernel_rfl
@[go_sem] theorem ze35 : zeroOf Try.prog 35 = some (.agg [(.int .i64 0), (.int .i64 0), (.int .i64 0), (.str ⟨#[]⟩), .nil]) := by kernel_rfl
@[go_sem] theorem ty36 : tyOf Try.prog 36 = ⟨(.struct [(0, 3), (1, 3), (2, 2), (3, 9), (4, 34)]), 5, 64⟩ := by kernel_rfl
@[go_sem] theorem ze36 : zeroOf Try.prog 36 = some (.agg [(.int .i64 0), (.int .i64 0), (.int .i64 0), (.str ⟨#[]⟩), .nil]) := by kernel_rfl
@[go_sem] theorem ty43 : tyOf Try.prog 43 = ⟨(.int .u64), 1, 8⟩ := by kernel_rfl
@[go_sem] theorem ze43 : zeroOf Try.prog 43 = some (.int .u64 0) := by kernel_rfl
@[go_sem] theorem ty46 : tyOf Try.prog 46 = ⟨(.slice 5), 1, 24⟩ := by kernel_rfl
@[go_sem] theorem ze46 : zeroOf Try.prog 46 = some .nil := by kernel_rfl
@[go_sem] theorem ty64 : tyOf Try.prog 64 = ⟨(.ptr 66), 1, 8⟩ := by kernel_rfl
@[go_sem] theorem ze64 : zeroOf Try.prog 64 = some .null := by kernel_rfl
@[go_sem] theorem ty65 : tyOf Try.prog 65 = ⟨(.struct [(0, 34), (1, 3), (2, 4)]), 3, 40⟩ := by kernel_rfl
@[go_sem] theorem ze65 : zeroOf Try.prog 65 = some (.agg [.nil, (.int .i64 0), (.bool false)]) := by kernel_rfl
@[go_sem] theorem ty66 : tyOf Try.prog 66 = ⟨(.struct [(0, 34), (1, 3), (2, 4)]), 3, 40⟩ := by kernel_rfl
@[go_sem] theorem ze66 : zeroOf Try.prog 66 = some (.agg [.nil, (.int .i64 0), (.bool false)]) := by kernel_rfl
@[go_sem] theorem ty86 : tyOf Try.prog 86 = ⟨(.array 5 9), 5, 80⟩ := by kernel_rfl
@[go_sem] theorem ze86 : zeroOf Try.prog 86 = some (.agg [(.str ⟨#[]⟩), (.str ⟨#[]⟩), (.str ⟨#[]⟩), (.str ⟨#[]⟩), (.str ⟨#[]⟩)]) := by kernel_rfl
@[go_sem] theorem ty91 : tyOf Try.prog 91 = ⟨(.int .u64), 1, 8⟩ := by kernel_rfl
@[go_sem] theorem ze91 : zeroOf Try.prog 91 = some (.int .u64 0) := by kernel_rfl
@[go_sem] theorem ty98 : tyOf Try.prog 98 = ⟨(.int .i64), 1, 8⟩ := by kernel_rfl
@[go_sem] theorem ze98 : zeroOf Try.prog 98 = some (.int .i64 0) := by kernel_rfl
@[go_sem] theorem ty106 : tyOf Try.prog 106 = ⟨(.int .u32), 1, 4⟩ := by kernel_rfl
@[go_sem] theorem ze106 : zeroOf Try.prog 106 = some (.int .u32 0) := by kernel_rfl
@[go_sem] theorem ty108 : tyOf Try.prog 108 = ⟨(.int .u64), 1, 8⟩ := by kernel_rfl
@[go_sem] theorem ze108 : zeroOf Try.prog 108 = some (.int .u64 0) := by kernel_rfl
@[go_sem] theorem ty112 : tyOf Try.prog 112 = ⟨(.ptr 3), 1, 8⟩ := by kernel_rfl
@[go_sem] theorem ze112 : zeroOf Try.prog 112 = some .null := by kernel_rfl
@[go_sem] theorem ty116 : tyOf Try.prog 116 = ⟨(.ptr 108), 1, 8⟩ := by kernel_rfl
@[go_sem] theorem ze116 : zeroOf Try.prog 116 = some .null := by kernel_rfl
@[go_sem] theorem ty121 : tyOf Try.prog 121 = ⟨(.struct [(0, 17), (1, 17), (2, 17), (3, 9)]), 4, 40⟩ := by kernel_rfl
@[go_sem] theorem ze121 : zeroOf Try.prog 121 = some (.agg [.null, .null, .null, (.str ⟨#[]⟩)]) := by kernel_rfl
@[go_sem] theorem ty122 : tyOf Try.prog 122 = ⟨(.struct [(0, 17), (1, 17), (2, 17), (3, 9)]), 4, 40⟩ := by kernel_rfl
@[go_sem] theorem ze122 : zeroOf Try.prog 122 = some (.agg [.null, .null, .null, (.str ⟨#[]⟩)]) := by kernel_rfl
@[go_sem] theorem ty123 : tyOf Try.prog 123 = ⟨(.array 0 16), 0, 0⟩ := by kernel_rfl
@[go_sem] theorem ze123 : zeroOf Try.prog 123 = some (.agg []) := by kernel_rfl
@[go_sem] theorem ty124 : tyOf Try.prog 124 = ⟨(.struct [(0, 123)]), 0, 0⟩ := by kernel_rfl
@[go_sem] theorem ze124 : zeroOf Try.prog 124 = some (.agg []) := by kernel_rfl
@[go_sem] theorem ty125 : tyOf Try.prog 125 = ⟨(.struct [(0, 123)]), 0, 0⟩ := by kernel_rfl
@[go_sem] theorem ze125 : zeroOf Try.prog 125 = some (.agg []) := by kernel_rfl
@[go_sem] theorem ty126 : tyOf Try.prog 126 = ⟨(.int .u8), 1, 1⟩ := by kernel_rfl
@[go_sem] theorem ze126 : zeroOf Try.prog 126 = some (.int .u8 0) := by kernel_rfl
@[go_sem] theorem ty127 : tyOf Try.prog 127 = ⟨(.int .u8), 1, 1⟩ := by kernel_rfl
@[go_sem] theorem ze127 : zeroOf Try.prog 127 = some (.int .u8 0) := by kernel_rfl
@[go_sem] theorem ty129 : tyOf Try.prog 129 = ⟨(.ptr 5), 1, 8⟩ := by kernel_rfl
@[go_sem] theorem ze129 : zeroOf Try.prog 129 = some .null := by kernel_rfl
@[go_sem] theorem ty130 : tyOf Try.prog 130 = ⟨(.int .i32), 1, 4⟩ := by kernel_rfl
@[go_sem] theorem ze130 : zeroOf Try.prog 130 = some (.int .i32 0) := by kernel_rfl
@[go_sem] theorem ty131 : tyOf Try.prog 131 = ⟨(.int .i32), 1, 4⟩ := by kernel_rfl
@[go_sem] theorem ze131 : zeroOf Try.prog 131 = some (.int .i32 0) := by kernel_rfl
@[go_sem] theorem ty132 : tyOf Try.prog 132 = ⟨(.struct [(0, 12), (1, 12), (2, 106), (3, 126), (4, 5), (5, 5), (6, 127), (7, 128), (8, 129), (9, 130), (10, 131)]), 11, 48⟩ := by kernel_rfl
@[go_sem] theorem ze132 : zeroOf Try.prog 132 = some (.agg [(.int .u64 0), (.int .u64 0), (.int .u32 0), (.int .u8 0), (.int .u8 0), (.int .u8 0), (.int .u8 0), .fn0, .null, (.int .i32 0), (.int .i32 0)]) := by kernel_rfl
@[go_sem] theorem ty133 : tyOf Try.prog 133 = ⟨(.struct [(0, 12), (1, 12), (2, 106), (3, 126), (4, 5), (5, 5), (6, 127), (7, 128), (8, 129), (9, 130), (10, 131)]), 11, 48⟩ := by kernel_rfl
@[go_sem] theorem ze133 : zeroOf Try.prog 133 = some (.agg [(.int .u64 0), (.int .u64 0), (.int .u32 0), (.int .u8 0), (.int .u8 0), (.int .u8 0), (.int .u8 0), .fn0, .null, (.int .i32 0), (.int .i32 0)]) := by kernel_rfl
end Go.Proofs.Ytnhpgmmhfgdmjaa.P14
