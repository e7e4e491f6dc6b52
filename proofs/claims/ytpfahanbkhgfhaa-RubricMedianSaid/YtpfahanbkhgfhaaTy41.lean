/- The type table of the program, entry by entry, as the walks read it. Conditions: none, each entry is computed by the kernel. -/
import Derived.Test.YtpfahanbkhgfhaaProg
import Derived.Test.YtpfahanbkhgfhaaEvT
set_option linter.unusedSimpArgs false
set_option linter.unusedVariables false
open Go Go.Proofs Go.Ev
namespace Go.Proofs.Ytpfahanbkhgfhaa.P41
set_option maxRecDepth 100000
@[go_sem] theorem ty2 : tyOf Try.prog 2 = ⟨(.int .i64), 1, 8⟩ := by kernel_rfl
@[go_sem] theorem ze2 : zeroOf Try.prog 2 = some (.int .i64 0) := by kernel_rfl
@[go_sem] theorem ty3 : tyOf Try.prog 3 = ⟨(.int .i64), 1, 8⟩ := by kernel_rfl
@[go_sem] theorem ze3 : zeroOf Try.prog 3 = some (.int .i64 0) := by kernel_rfl
@[go_sem] theorem ty4 : tyOf Try.prog 4 = ⟨.bool, 1, 1⟩ := by kernel_rfl
@[go_sem] theorem ze4 : zeroOf Try.prog 4 = some (.bool false) := by kernel_rfl
@[go_sem] theorem ty5 : tyOf Try.prog 5 = ⟨(.int .u8), 1, 1⟩ := by kernel_rfl
@[go_sem] theorem ze5 : zeroOf Try.prog 5 = some (.int .u8 0) := by kernel_rfl
@[go_sem] theorem ty6 : tyOf Try.prog 6 = ⟨(.int .u8), 1, 1⟩ := by kernel_rfl
@[go_sem] theorem ze6 : zeroOf Try.prog 6 = some (.int .u8 0) := by kernel_rfl
@[go_sem] theorem ty7 : tyOf Try.prog 7 = ⟨(.struct [(0, 2), (1, 3), (2, 4), (3, 6)]), 4, 24⟩ := by kernel_rfl
@[go_sem] theorem ze7 : zeroOf Try.prog 7 = some (.agg [(.int .i64 0), (.int .i64 0), (.bool false), (.int .u8 0)]) := by kernel_rfl
@[go_sem] theorem ty8 : tyOf Try.prog 8 = ⟨(.struct [(0, 2), (1, 3), (2, 4), (3, 6)]), 4, 24⟩ := by kernel_rfl
@[go_sem] theorem ze8 : zeroOf Try.prog 8 = some (.agg [(.int .i64 0), (.int .i64 0), (.bool false), (.int .u8 0)]) := by kernel_rfl
@[go_sem] theorem ty9 : tyOf Try.prog 9 = ⟨.str, 1, 16⟩ := by kernel_rfl
@[go_sem] theorem ze9 : zeroOf Try.prog 9 = some (.str ⟨#[]⟩) := by kernel_rfl
@[go_sem] theorem ty10 : tyOf Try.prog 10 = ⟨.str, 1, 16⟩ := by kernel_rfl
@[go_sem] theorem ze10 : zeroOf Try.prog 10 = some (.str ⟨#[]⟩) := by kernel_rfl
@[go_sem] theorem ty11 : tyOf Try.prog 11 = ⟨.str, 1, 16⟩ := by kernel_rfl
@[go_sem] theorem ze11 : zeroOf Try.prog 11 = some (.str ⟨#[]⟩) := by kernel_rfl
@[go_sem] theorem ty12 : tyOf Try.prog 12 = ⟨(.int .u64), 1, 8⟩ := by kernel_rfl
@[go_sem] theorem ze12 : zeroOf Try.prog 12 = some (.int .u64 0) := by kernel_rfl
@[go_sem] theorem ty13 : tyOf Try.prog 13 = ⟨(.struct [(0, 9), (1, 12)]), 2, 24⟩ := by kernel_rfl
@[go_sem] theorem ze13 : zeroOf Try.prog 13 = some (.agg [(.str ⟨#[]⟩), (.int .u64 0)]) := by kernel_rfl
@[go_sem] theorem ty14 : tyOf Try.prog 14 = ⟨(.struct [(0, 9), (1, 12)]), 2, 24⟩ := by kernel_rfl
@[go_sem] theorem ze14 : zeroOf Try.prog 14 = some (.agg [(.str ⟨#[]⟩), (.int .u64 0)]) := by kernel_rfl
@[go_sem] theorem ty15 : tyOf Try.prog 15 = ⟨(.ptr 49), 1, 8⟩ := by kernel_rfl
@[go_sem] theorem ze15 : zeroOf Try.prog 15 = some .null := by kernel_rfl
@[go_sem] theorem ty16 : tyOf Try.prog 16 = ⟨(.ptr 52), 1, 8⟩ := by kernel_rfl
@[go_sem] theorem ze16 : zeroOf Try.prog 16 = some .null := by kernel_rfl
@[go_sem] theorem ty17 : tyOf Try.prog 17 = ⟨(.ptr 62), 1, 8⟩ := by kernel_rfl
@[go_sem] theorem ze17 : zeroOf Try.prog 17 = some .null := by kernel_rfl
@[go_sem] theorem ty18 : tyOf Try.prog 18 = ⟨(.struct [(0, 17)]), 1, 8⟩ := by kernel_rfl
@[go_sem] theorem ze18 : zeroOf Try.prog 18 = some (.agg [.null]) := by kernel_rfl
@[go_sem] theorem ty19 : tyOf Try.prog 19 = ⟨(.struct [(0, 17)]), 1, 8⟩ := by kernel_rfl
@[go_sem] theorem ze19 : zeroOf Try.prog 19 = some (.agg [.null]) := by kernel_rfl
@[go_sem] theorem ty20 : tyOf Try.prog 20 = ⟨(.iface true), 1, 16⟩ := by kernel_rfl
@[go_sem] theorem ze20 : zeroOf Try.prog 20 = some .if0 := by kernel_rfl
@[go_sem] theorem ty21 : tyOf Try.prog 21 = ⟨(.int .i32), 1, 4⟩ := by kernel_rfl
@[go_sem] theorem ze21 : zeroOf Try.prog 21 = some (.int .i32 0) := by kernel_rfl
@[go_sem] theorem ty22 : tyOf Try.prog 22 = ⟨(.slice 39), 1, 24⟩ := by kernel_rfl
@[go_sem] theorem ze22 : zeroOf Try.prog 22 = some .nil := by kernel_rfl
@[go_sem] theorem ty23 : tyOf Try.prog 23 = ⟨(.struct [(0, 3), (1, 22)]), 2, 32⟩ := by kernel_rfl
@[go_sem] theorem ze23 : zeroOf Try.prog 23 = some (.agg [(.int .i64 0), .nil]) := by kernel_rfl
@[go_sem] theorem ty24 : tyOf Try.prog 24 = ⟨(.struct [(0, 3), (1, 22)]), 2, 32⟩ := by kernel_rfl
@[go_sem] theorem ze24 : zeroOf Try.prog 24 = some (.agg [(.int .i64 0), .nil]) := by kernel_rfl
@[go_sem] theorem ty25 : tyOf Try.prog 25 = ⟨(.slice 3), 1, 24⟩ := by kernel_rfl
@[go_sem] theorem ze25 : zeroOf Try.prog 25 = some .nil := by kernel_rfl
@[go_sem] theorem ty26 : tyOf Try.prog 26 = ⟨(.int .i64), 1, 8⟩ := by kernel_rfl
@[go_sem] theorem ze26 : zeroOf Try.prog 26 = some (.int .i64 0) := by kernel_rfl
@[go_sem] theorem ty38 : tyOf Try.prog 38 = ⟨(.struct [(0, 9), (1, 3), (2, 3)]), 3, 32⟩ := by kernel_rfl
@[go_sem] theorem ze38 : zeroOf Try.prog 38 = some (.agg [(.str ⟨#[]⟩), (.int .i64 0), (.int .i64 0)]) := by kernel_rfl
@[go_sem] theorem ty39 : tyOf Try.prog 39 = ⟨(.struct [(0, 9), (1, 3), (2, 3)]), 3, 32⟩ := by kernel_rfl
@[go_sem] theorem ze39 : zeroOf Try.prog 39 = some (.agg [(.str ⟨#[]⟩), (.int .i64 0), (.int .i64 0)]) := by kernel_rfl
@[go_sem] theorem ty44 : tyOf Try.prog 44 = ⟨(.slice 25), 1, 24⟩ := by kernel_rfl
@[go_sem] theorem ze44 : zeroOf Try.prog 44 = some .nil := by kernel_rfl
@[go_sem] theorem ty45 : tyOf Try.prog 45 = ⟨(.slice 5), 1, 24⟩ := by kernel_rfl
@[go_sem] theorem ze45 : zeroOf Try.prog 45 = some .nil := by kernel_rfl
@[go_sem] theorem ty48 : tyOf Try.prog 48 = ⟨(.struct [(0, 17), (1, 17), (2, 17), (3, 9)]), 4, 40⟩ := by kernel_rfl
@[go_sem] theorem ze48 : zeroOf Try.prog 48 = some (.agg [.null, .null, .null, (.str ⟨#[]⟩)]) := by kernel_rfl
@[go_sem] theorem ty49 : tyOf Try.prog 49 = ⟨(.struct [(0, 17), (1, 17), (2, 17), (3, 9)]), 4, 40⟩ := by kernel_rfl
@[go_sem] theorem ze49 : zeroOf Try.prog 49 = some (.agg [.null, .null, .null, (.str ⟨#[]⟩)]) := by kernel_rfl
@[go_sem] theorem ty50 : tyOf Try.prog 50 = ⟨(.array 0 16), 0, 0⟩ := by kernel_rfl
@[go_sem] theorem ze50 : zeroOf Try.prog 50 = some (.agg []) := by kernel_rfl
@[go_sem] theorem ty51 : tyOf Try.prog 51 = ⟨(.struct [(0, 50)]), 0, 0⟩ := by kernel_rfl
@[go_sem] theorem ze51 : zeroOf Try.prog 51 = some (.agg []) := by kernel_rfl
@[go_sem] theorem ty52 : tyOf Try.prog 52 = ⟨(.struct [(0, 50)]), 0, 0⟩ := by kernel_rfl
@[go_sem] theorem ze52 : zeroOf Try.prog 52 = some (.agg []) := by kernel_rfl
@[go_sem] theorem ty54 : tyOf Try.prog 54 = ⟨(.int .u32), 1, 4⟩ := by kernel_rfl
@[go_sem] theorem ze54 : zeroOf Try.prog 54 = some (.int .u32 0) := by kernel_rfl
@[go_sem] theorem ty55 : tyOf Try.prog 55 = ⟨(.int .u8), 1, 1⟩ := by kernel_rfl
@[go_sem] theorem ze55 : zeroOf Try.prog 55 = some (.int .u8 0) := by kernel_rfl
@[go_sem] theorem ty56 : tyOf Try.prog 56 = ⟨(.int .u8), 1, 1⟩ := by kernel_rfl
@[go_sem] theorem ze56 : zeroOf Try.prog 56 = some (.int .u8 0) := by kernel_rfl
@[go_sem] theorem ty58 : tyOf Try.prog 58 = ⟨(.ptr 5), 1, 8⟩ := by kernel_rfl
@[go_sem] theorem ze58 : zeroOf Try.prog 58 = some .null := by kernel_rfl
@[go_sem] theorem ty59 : tyOf Try.prog 59 = ⟨(.int .i32), 1, 4⟩ := by kernel_rfl
@[go_sem] theorem ze59 : zeroOf Try.prog 59 = some (.int .i32 0) := by kernel_rfl
@[go_sem] theorem ty60 : tyOf Try.prog 60 = ⟨(.int .i32), 1, 4⟩ := by kernel_rfl
@[go_sem] theorem ze60 : zeroOf Try.prog 60 = some (.int .i32 0) := by kernel_rfl
@[go_sem] theorem ty61 : tyOf Try.prog 61 = ⟨(.struct [(0, 12), (1, 12), (2, 54), (3, 55), (4, 5), (5, 5), (6, 56), (7, 57), (8, 58), (9, 59), (10, 60)]), 11, 48⟩ := by kernel_rfl
@[go_sem] theorem ze61 : zeroOf Try.prog 61 = some (.agg [(.int .u64 0), (.int .u64 0), (.int .u32 0), (.int .u8 0), (.int .u8 0), (.int .u8 0), (.int .u8 0), .fn0, .null, (.int .i32 0), (.int .i32 0)]) := by kernel_rfl
@[go_sem] theorem ty62 : tyOf Try.prog 62 = ⟨(.struct [(0, 12), (1, 12), (2, 54), (3, 55), (4, 5), (5, 5), (6, 56), (7, 57), (8, 58), (9, 59), (10, 60)]), 11, 48⟩ := by kernel_rfl
@[go_sem] theorem ze62 : zeroOf Try.prog 62 = some (.agg [(.int .u64 0), (.int .u64 0), (.int .u32 0), (.int .u8 0), (.int .u8 0), (.int .u8 0), (.int .u8 0), .fn0, .null, (.int .i32 0), (.int .i32 0)]) := by kernel_rfl

end Go.Proofs.Ytpfahanbkhgfhaa.P41
