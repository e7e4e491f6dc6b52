/- The type table of the program, entry by entry, as the walks read it. Conditions: none, each entry is computed by the kernel. -/
import Derived.Test.YtpfahanbkhgfhaaDoorProg
import Derived.Test.YtpfahanbkhgfhaaDoorEvX
import Derived.Test.YtpfahanbkhgfhaaDoorEvT
set_option linter.unusedSimpArgs false
set_option linter.unusedVariables false
open Go Go.Proofs Go.Ev
namespace Go.Proofs.YtpfahanbkhgfhaaDoor.P41
set_option maxRecDepth 100000
@[go_sem] theorem ty2 : tyOf Tryd.prog 2 = ⟨(.int .i64), 1, 8⟩ := by kernel_rfl
@[go_sem] theorem ze2 : zeroOf Tryd.prog 2 = some (.int .i64 0) := by kernel_rfl
@[go_sem] theorem ty3 : tyOf Tryd.prog 3 = ⟨(.int .i64), 1, 8⟩ := by kernel_rfl
@[go_sem] theorem ze3 : zeroOf Tryd.prog 3 = some (.int .i64 0) := by kernel_rfl
@[go_sem] theorem ty4 : tyOf Tryd.prog 4 = ⟨.bool, 1, 1⟩ := by kernel_rfl
@[go_sem] theorem ze4 : zeroOf Tryd.prog 4 = some (.bool false) := by kernel_rfl
@[go_sem] theorem ty5 : tyOf Tryd.prog 5 = ⟨(.int .u8), 1, 1⟩ := by kernel_rfl
@[go_sem] theorem ze5 : zeroOf Tryd.prog 5 = some (.int .u8 0) := by kernel_rfl
@[go_sem] theorem ty6 : tyOf Tryd.prog 6 = ⟨(.int .u8), 1, 1⟩ := by kernel_rfl
@[go_sem] theorem ze6 : zeroOf Tryd.prog 6 = some (.int .u8 0) := by kernel_rfl
@[go_sem] theorem ty7 : tyOf Tryd.prog 7 = ⟨(.struct [(0, 2), (1, 3), (2, 4), (3, 6)]), 4, 24⟩ := by kernel_rfl
@[go_sem] theorem ze7 : zeroOf Tryd.prog 7 = some (.agg [(.int .i64 0), (.int .i64 0), (.bool false), (.int .u8 0)]) := by kernel_rfl
@[go_sem] theorem ty8 : tyOf Tryd.prog 8 = ⟨(.struct [(0, 2), (1, 3), (2, 4), (3, 6)]), 4, 24⟩ := by kernel_rfl
@[go_sem] theorem ze8 : zeroOf Tryd.prog 8 = some (.agg [(.int .i64 0), (.int .i64 0), (.bool false), (.int .u8 0)]) := by kernel_rfl
@[go_sem] theorem ty9 : tyOf Tryd.prog 9 = ⟨.str, 1, 16⟩ := by kernel_rfl
@[go_sem] theorem ze9 : zeroOf Tryd.prog 9 = some (.str ⟨#[]⟩) := by kernel_rfl
@[go_sem] theorem ty10 : tyOf Tryd.prog 10 = ⟨.str, 1, 16⟩ := by kernel_rfl
@[go_sem] theorem ze10 : zeroOf Tryd.prog 10 = some (.str ⟨#[]⟩) := by kernel_rfl
@[go_sem] theorem ty11 : tyOf Tryd.prog 11 = ⟨.str, 1, 16⟩ := by kernel_rfl
@[go_sem] theorem ze11 : zeroOf Tryd.prog 11 = some (.str ⟨#[]⟩) := by kernel_rfl
@[go_sem] theorem ty12 : tyOf Tryd.prog 12 = ⟨(.int .u64), 1, 8⟩ := by kernel_rfl
@[go_sem] theorem ze12 : zeroOf Tryd.prog 12 = some (.int .u64 0) := by kernel_rfl
@[go_sem] theorem ty13 : tyOf Tryd.prog 13 = ⟨(.struct [(0, 9), (1, 12)]), 2, 24⟩ := by kernel_rfl
@[go_sem] theorem ze13 : zeroOf Tryd.prog 13 = some (.agg [(.str ⟨#[]⟩), (.int .u64 0)]) := by kernel_rfl
@[go_sem] theorem ty14 : tyOf Tryd.prog 14 = ⟨(.struct [(0, 9), (1, 12)]), 2, 24⟩ := by kernel_rfl
@[go_sem] theorem ze14 : zeroOf Tryd.prog 14 = some (.agg [(.str ⟨#[]⟩), (.int .u64 0)]) := by kernel_rfl
@[go_sem] theorem ty15 : tyOf Tryd.prog 15 = ⟨(.ptr 97), 1, 8⟩ := by kernel_rfl
@[go_sem] theorem ze15 : zeroOf Tryd.prog 15 = some .null := by kernel_rfl
@[go_sem] theorem ty16 : tyOf Tryd.prog 16 = ⟨(.ptr 100), 1, 8⟩ := by kernel_rfl
@[go_sem] theorem ze16 : zeroOf Tryd.prog 16 = some .null := by kernel_rfl
@[go_sem] theorem ty17 : tyOf Tryd.prog 17 = ⟨(.ptr 108), 1, 8⟩ := by kernel_rfl
@[go_sem] theorem ze17 : zeroOf Tryd.prog 17 = some .null := by kernel_rfl
@[go_sem] theorem ty18 : tyOf Tryd.prog 18 = ⟨(.struct [(0, 17)]), 1, 8⟩ := by kernel_rfl
@[go_sem] theorem ze18 : zeroOf Tryd.prog 18 = some (.agg [.null]) := by kernel_rfl
@[go_sem] theorem ty19 : tyOf Tryd.prog 19 = ⟨(.struct [(0, 17)]), 1, 8⟩ := by kernel_rfl
@[go_sem] theorem ze19 : zeroOf Tryd.prog 19 = some (.agg [.null]) := by kernel_rfl
@[go_sem] theorem ty20 : tyOf Tryd.prog 20 = ⟨(.iface true), 1, 16⟩ := by kernel_rfl
@[go_sem] theorem ze20 : zeroOf Tryd.prog 20 = some .if0 := by kernel_rfl
@[go_sem] theorem ty21 : tyOf Tryd.prog 21 = ⟨(.int .i32), 1, 4⟩ := by kernel_rfl
@[go_sem] theorem ze21 : zeroOf Tryd.prog 21 = some (.int .i32 0) := by kernel_rfl
@[go_sem] theorem ty22 : tyOf Tryd.prog 22 = ⟨(.slice 45), 1, 24⟩ := by kernel_rfl
@[go_sem] theorem ze22 : zeroOf Tryd.prog 22 = some .nil := by kernel_rfl
@[go_sem] theorem ty23 : tyOf Tryd.prog 23 = ⟨(.struct [(0, 3), (1, 22)]), 2, 32⟩ := by kernel_rfl
@[go_sem] theorem ze23 : zeroOf Tryd.prog 23 = some (.agg [(.int .i64 0), .nil]) := by kernel_rfl
@[go_sem] theorem ty24 : tyOf Tryd.prog 24 = ⟨(.struct [(0, 3), (1, 22)]), 2, 32⟩ := by kernel_rfl
@[go_sem] theorem ze24 : zeroOf Tryd.prog 24 = some (.agg [(.int .i64 0), .nil]) := by kernel_rfl
@[go_sem] theorem ty25 : tyOf Tryd.prog 25 = ⟨(.slice 3), 1, 24⟩ := by kernel_rfl
@[go_sem] theorem ze25 : zeroOf Tryd.prog 25 = some .nil := by kernel_rfl
@[go_sem] theorem ty26 : tyOf Tryd.prog 26 = ⟨(.int .i64), 1, 8⟩ := by kernel_rfl
@[go_sem] theorem ze26 : zeroOf Tryd.prog 26 = some (.int .i64 0) := by kernel_rfl
@[go_sem] theorem ty39 : tyOf Tryd.prog 39 = ⟨(.slice 9), 1, 24⟩ := by kernel_rfl
@[go_sem] theorem ze39 : zeroOf Tryd.prog 39 = some .nil := by kernel_rfl
@[go_sem] theorem ty44 : tyOf Tryd.prog 44 = ⟨(.struct [(0, 9), (1, 3), (2, 3)]), 3, 32⟩ := by kernel_rfl
@[go_sem] theorem ze44 : zeroOf Tryd.prog 44 = some (.agg [(.str ⟨#[]⟩), (.int .i64 0), (.int .i64 0)]) := by kernel_rfl
@[go_sem] theorem ty45 : tyOf Tryd.prog 45 = ⟨(.struct [(0, 9), (1, 3), (2, 3)]), 3, 32⟩ := by kernel_rfl
@[go_sem] theorem ze45 : zeroOf Tryd.prog 45 = some (.agg [(.str ⟨#[]⟩), (.int .i64 0), (.int .i64 0)]) := by kernel_rfl
@[go_sem] theorem ty51 : tyOf Tryd.prog 51 = ⟨(.slice 5), 1, 24⟩ := by kernel_rfl
@[go_sem] theorem ze51 : zeroOf Tryd.prog 51 = some .nil := by kernel_rfl
@[go_sem] theorem ty54 : tyOf Tryd.prog 54 = ⟨(.ptr 56), 1, 8⟩ := by kernel_rfl
@[go_sem] theorem ze54 : zeroOf Tryd.prog 54 = some .null := by kernel_rfl
@[go_sem] theorem ty55 : tyOf Tryd.prog 55 = ⟨(.struct [(0, 54), (1, 51)]), 2, 32⟩ := by kernel_rfl
@[go_sem] theorem ze55 : zeroOf Tryd.prog 55 = some (.agg [.null, .nil]) := by kernel_rfl
@[go_sem] theorem ty56 : tyOf Tryd.prog 56 = ⟨(.struct [(0, 54), (1, 51)]), 2, 32⟩ := by kernel_rfl
@[go_sem] theorem ze56 : zeroOf Tryd.prog 56 = some (.agg [.null, .nil]) := by kernel_rfl
@[go_sem] theorem ty58 : tyOf Tryd.prog 58 = ⟨(.iface false), 1, 16⟩ := by kernel_rfl
@[go_sem] theorem ze58 : zeroOf Tryd.prog 58 = some .if0 := by kernel_rfl
@[go_sem] theorem ty59 : tyOf Tryd.prog 59 = ⟨(.iface false), 1, 16⟩ := by kernel_rfl
@[go_sem] theorem ze59 : zeroOf Tryd.prog 59 = some .if0 := by kernel_rfl
@[go_sem] theorem ty66 : tyOf Tryd.prog 66 = ⟨(.ptr 5), 1, 8⟩ := by kernel_rfl
@[go_sem] theorem ze66 : zeroOf Tryd.prog 66 = some .null := by kernel_rfl
@[go_sem] theorem ty70 : tyOf Tryd.prog 70 = ⟨(.array 24 5), 24, 24⟩ := by kernel_rfl
@[go_sem] theorem ze70 : zeroOf Tryd.prog 70 = some (.agg [(.int .u8 0), (.int .u8 0), (.int .u8 0), (.int .u8 0), (.int .u8 0), (.int .u8 0), (.int .u8 0), (.int .u8 0), (.int .u8 0), (.int .u8 0), (.int .u8 0), (.int .u8 0), (.int .u8 0), (.int .u8 0), (.int .u8 0), (.int .u8 0), (.int .u8 0), (.int .u8 0), (.int .u8 0), (.int .u8 0), (.int .u8 0), (.int .u8 0), (.int .u8 0), (.int .u8 0)]) := by kernel_rfl
@[go_sem] theorem ty71 : tyOf Tryd.prog 71 = ⟨(.int .u64), 1, 8⟩ := by kernel_rfl
@[go_sem] theorem ze71 : zeroOf Tryd.prog 71 = some (.int .u64 0) := by kernel_rfl
@[go_sem] theorem ty80 : tyOf Tryd.prog 80 = ⟨(.int .u64), 1, 8⟩ := by kernel_rfl
@[go_sem] theorem ze80 : zeroOf Tryd.prog 80 = some (.int .u64 0) := by kernel_rfl
@[go_sem] theorem ty82 : tyOf Tryd.prog 82 = ⟨(.array 20 71), 20, 160⟩ := by kernel_rfl
@[go_sem] theorem ze82 : zeroOf Tryd.prog 82 = some (.agg [(.int .u64 0), (.int .u64 0), (.int .u64 0), (.int .u64 0), (.int .u64 0), (.int .u64 0), (.int .u64 0), (.int .u64 0), (.int .u64 0), (.int .u64 0), (.int .u64 0), (.int .u64 0), (.int .u64 0), (.int .u64 0), (.int .u64 0), (.int .u64 0), (.int .u64 0), (.int .u64 0), (.int .u64 0), (.int .u64 0)]) := by kernel_rfl
@[go_sem] theorem ty83 : tyOf Tryd.prog 83 = ⟨(.int .u32), 1, 4⟩ := by kernel_rfl
@[go_sem] theorem ze83 : zeroOf Tryd.prog 83 = some (.int .u32 0) := by kernel_rfl
@[go_sem] theorem ty84 : tyOf Tryd.prog 84 = ⟨(.array 65 5), 65, 65⟩ := by kernel_rfl
@[go_sem] theorem ze84 : zeroOf Tryd.prog 84 = some (.agg [(.int .u8 0), (.int .u8 0), (.int .u8 0), (.int .u8 0), (.int .u8 0), (.int .u8 0), (.int .u8 0), (.int .u8 0), (.int .u8 0), (.int .u8 0), (.int .u8 0), (.int .u8 0), (.int .u8 0), (.int .u8 0), (.int .u8 0), (.int .u8 0), (.int .u8 0), (.int .u8 0), (.int .u8 0), (.int .u8 0), (.int .u8 0), (.int .u8 0), (.int .u8 0), (.int .u8 0), (.int .u8 0), (.int .u8 0), (.int .u8 0), (.int .u8 0), (.int .u8 0), (.int .u8 0), (.int .u8 0), (.int .u8 0), (.int .u8 0), (.int .u8 0), (.int .u8 0), (.int .u8 0), (.int .u8 0), (.int .u8 0), (.int .u8 0), (.int .u8 0), (.int .u8 0), (.int .u8 0), (.int .u8 0), (.int .u8 0), (.int .u8 0), (.int .u8 0), (.int .u8 0), (.int .u8 0), (.int .u8 0), (.int .u8 0), (.int .u8 0), (.int .u8 0), (.int .u8 0), (.int .u8 0), (.int .u8 0), (.int .u8 0), (.int .u8 0), (.int .u8 0), (.int .u8 0), (.int .u8 0), (.int .u8 0), (.int .u8 0), (.int .u8 0), (.int .u8 0), (.int .u8 0)]) := by kernel_rfl
@[go_sem] theorem ty87 : tyOf Tryd.prog 87 = ⟨(.array 256 5), 256, 256⟩ := by kernel_rfl
@[go_sem] theorem ze87 : zeroOf Tryd.prog 87 = some (.agg [(.int .u8 0), (.int .u8 0), (.int .u8 0), (.int .u8 0), (.int .u8 0), (.int .u8 0), (.int .u8 0), (.int .u8 0), (.int .u8 0), (.int .u8 0), (.int .u8 0), (.int .u8 0), (.int .u8 0), (.int .u8 0), (.int .u8 0), (.int .u8 0), (.int .u8 0), (.int .u8 0), (.int .u8 0), (.int .u8 0), (.int .u8 0), (.int .u8 0), (.int .u8 0), (.int .u8 0), (.int .u8 0), (.int .u8 0), (.int .u8 0), (.int .u8 0), (.int .u8 0), (.int .u8 0), (.int .u8 0), (.int .u8 0), (.int .u8 0), (.int .u8 0), (.int .u8 0), (.int .u8 0), (.int .u8 0), (.int .u8 0), (.int .u8 0), (.int .u8 0), (.int .u8 0), (.int .u8 0), (.int .u8 0), (.int .u8 0), (.int .u8 0), (.int .u8 0), (.int .u8 0), (.int .u8 0), (.int .u8 0), (.int .u8 0), (.int .u8 0), (.int .u8 0), (.int .u8 0), (.int .u8 0), (.int .u8 0), (.int .u8 0), (.int .u8 0), (.int .u8 0), (.int .u8 0), (.int .u8 0), (.int .u8 0), (.int .u8 0), (.int .u8 0), (.int .u8 0), (.int .u8 0), (.int .u8 0), (.int .u8 0), (.int .u8 0), (.int .u8 0), (.int .u8 0), (.int .u8 0), (.int .u8 0), (.int .u8 0), (.int .u8 0), (.int .u8 0), (.int .u8 0), (.int .u8 0), (.int .u8 0), (.int .u8 0), (.int .u8 0), (.int .u8 0), (.int .u8 0), (.int .u8 0), (.int .u8 0), (.int .u8 0), (.int .u8 0), (.int .u8 0), (.int .u8 0), (.int .u8 0), (.int .u8 0), (.int .u8 0), (.int .u8 0), (.int .u8 0), (.int .u8 0), (.int .u8 0), (.int .u8 0), (.int .u8 0), (.int .u8 0), (.int .u8 0), (.int .u8 0), (.int .u8 0), (.int .u8 0), (.int .u8 0), (.int .u8 0), (.int .u8 0), (.int .u8 0), (.int .u8 0), (.int .u8 0), (.int .u8 0), (.int .u8 0), (.int .u8 0), (.int .u8 0), (.int .u8 0), (.int .u8 0), (.int .u8 0), (.int .u8 0), (.int .u8 0), (.int .u8 0), (.int .u8 0), (.int .u8 0), (.int .u8 0), (.int .u8 0), (.int .u8 0), (.int .u8 0), (.int .u8 0), (.int .u8 0), (.int .u8 0), (.int .u8 0), (.int .u8 0), (.int .u8 0), (.int .u8 0), (.int .u8 0), (.int .u8 0), (.int .u8 0), (.int .u8 0), (.int .u8 0), (.int .u8 0), (.int .u8 0), (.int .u8 0), (.int .u8 0), (.int .u8 0), (.int .u8 0), (.int .u8 0), (.int .u8 0), (.int .u8 0), (.int .u8 0), (.int .u8 0), (.int .u8 0), (.int .u8 0), (.int .u8 0), (.int .u8 0), (.int .u8 0), (.int .u8 0), (.int .u8 0), (.int .u8 0), (.int .u8 0), (.int .u8 0), (.int .u8 0), (.int .u8 0), (.int .u8 0), (.int .u8 0), (.int .u8 0), (.int .u8 0), (.int .u8 0), (.int .u8 0), (.int .u8 0), (.int .u8 0), (.int .u8 0), (.int .u8 0), (.int .u8 0), (.int .u8 0), (.int .u8 0), (.int .u8 0), (.int .u8 0), (.int .u8 0), (.int .u8 0), (.int .u8 0), (.int .u8 0), (.int .u8 0), (.int .u8 0), (.int .u8 0), (.int .u8 0), (.int .u8 0), (.int .u8 0), (.int .u8 0), (.int .u8 0), (.int .u8 0), (.int .u8 0), (.int .u8 0), (.int .u8 0), (.int .u8 0), (.int .u8 0), (.int .u8 0), (.int .u8 0), (.int .u8 0), (.int .u8 0), (.int .u8 0), (.int .u8 0), (.int .u8 0), (.int .u8 0), (.int .u8 0), (.int .u8 0), (.int .u8 0), (.int .u8 0), (.int .u8 0), (.int .u8 0), (.int .u8 0), (.int .u8 0), (.int .u8 0), (.int .u8 0), (.int .u8 0), (.int .u8 0), (.int .u8 0), (.int .u8 0), (.int .u8 0), (.int .u8 0), (.int .u8 0), (.int .u8 0), (.int .u8 0), (.int .u8 0), (.int .u8 0), (.int .u8 0), (.int .u8 0), (.int .u8 0), (.int .u8 0), (.int .u8 0), (.int .u8 0), (.int .u8 0), (.int .u8 0), (.int .u8 0), (.int .u8 0), (.int .u8 0), (.int .u8 0), (.int .u8 0), (.int .u8 0), (.int .u8 0), (.int .u8 0), (.int .u8 0), (.int .u8 0), (.int .u8 0), (.int .u8 0), (.int .u8 0), (.int .u8 0), (.int .u8 0), (.int .u8 0), (.int .u8 0), (.int .u8 0), (.int .u8 0), (.int .u8 0), (.int .u8 0), (.int .u8 0), (.int .u8 0), (.int .u8 0), (.int .u8 0), (.int .u8 0), (.int .u8 0)]) := by kernel_rfl
@[go_sem] theorem ty88 : tyOf Tryd.prog 88 = ⟨(.struct [(0, 5), (1, 5)]), 2, 2⟩ := by kernel_rfl
@[go_sem] theorem ze88 : zeroOf Tryd.prog 88 = some (.agg [(.int .u8 0), (.int .u8 0)]) := by kernel_rfl
@[go_sem] theorem ty89 : tyOf Tryd.prog 89 = ⟨(.struct [(0, 5), (1, 5)]), 2, 2⟩ := by kernel_rfl
@[go_sem] theorem ze89 : zeroOf Tryd.prog 89 = some (.agg [(.int .u8 0), (.int .u8 0)]) := by kernel_rfl
@[go_sem] theorem ty90 : tyOf Tryd.prog 90 = ⟨(.array 16 89), 32, 32⟩ := by kernel_rfl
@[go_sem] theorem ze90 : zeroOf Tryd.prog 90 = some (.agg [(.int .u8 0), (.int .u8 0), (.int .u8 0), (.int .u8 0), (.int .u8 0), (.int .u8 0), (.int .u8 0), (.int .u8 0), (.int .u8 0), (.int .u8 0), (.int .u8 0), (.int .u8 0), (.int .u8 0), (.int .u8 0), (.int .u8 0), (.int .u8 0), (.int .u8 0), (.int .u8 0), (.int .u8 0), (.int .u8 0), (.int .u8 0), (.int .u8 0), (.int .u8 0), (.int .u8 0), (.int .u8 0), (.int .u8 0), (.int .u8 0), (.int .u8 0), (.int .u8 0), (.int .u8 0), (.int .u8 0), (.int .u8 0)]) := by kernel_rfl
@[go_sem] theorem ty94 : tyOf Tryd.prog 94 = ⟨(.array 32 5), 32, 32⟩ := by kernel_rfl
@[go_sem] theorem ze94 : zeroOf Tryd.prog 94 = some (.agg [(.int .u8 0), (.int .u8 0), (.int .u8 0), (.int .u8 0), (.int .u8 0), (.int .u8 0), (.int .u8 0), (.int .u8 0), (.int .u8 0), (.int .u8 0), (.int .u8 0), (.int .u8 0), (.int .u8 0), (.int .u8 0), (.int .u8 0), (.int .u8 0), (.int .u8 0), (.int .u8 0), (.int .u8 0), (.int .u8 0), (.int .u8 0), (.int .u8 0), (.int .u8 0), (.int .u8 0), (.int .u8 0), (.int .u8 0), (.int .u8 0), (.int .u8 0), (.int .u8 0), (.int .u8 0), (.int .u8 0), (.int .u8 0)]) := by kernel_rfl
@[go_sem] theorem ty95 : tyOf Tryd.prog 95 = ⟨(.array 64 5), 64, 64⟩ := by kernel_rfl
@[go_sem] theorem ze95 : zeroOf Tryd.prog 95 = some (.agg [(.int .u8 0), (.int .u8 0), (.int .u8 0), (.int .u8 0), (.int .u8 0), (.int .u8 0), (.int .u8 0), (.int .u8 0), (.int .u8 0), (.int .u8 0), (.int .u8 0), (.int .u8 0), (.int .u8 0), (.int .u8 0), (.int .u8 0), (.int .u8 0), (.int .u8 0), (.int .u8 0), (.int .u8 0), (.int .u8 0), (.int .u8 0), (.int .u8 0), (.int .u8 0), (.int .u8 0), (.int .u8 0), (.int .u8 0), (.int .u8 0), (.int .u8 0), (.int .u8 0), (.int .u8 0), (.int .u8 0), (.int .u8 0), (.int .u8 0), (.int .u8 0), (.int .u8 0), (.int .u8 0), (.int .u8 0), (.int .u8 0), (.int .u8 0), (.int .u8 0), (.int .u8 0), (.int .u8 0), (.int .u8 0), (.int .u8 0), (.int .u8 0), (.int .u8 0), (.int .u8 0), (.int .u8 0), (.int .u8 0), (.int .u8 0), (.int .u8 0), (.int .u8 0), (.int .u8 0), (.int .u8 0), (.int .u8 0), (.int .u8 0), (.int .u8 0), (.int .u8 0), (.int .u8 0), (.int .u8 0), (.int .u8 0), (.int .u8 0), (.int .u8 0), (.int .u8 0)]) := by kernel_rfl
@[go_sem] theorem ty96 : tyOf Tryd.prog 96 = ⟨(.struct [(0, 17), (1, 17), (2, 17), (3, 9)]), 4, 40⟩ := by kernel_rfl
@[go_sem] theorem ze96 : zeroOf Tryd.prog 96 = some (.agg [.null, .null, .null, (.str ⟨#[]⟩)]) := by kernel_rfl
@[go_sem] theorem ty97 : tyOf Tryd.prog 97 = ⟨(.struct [(0, 17), (1, 17), (2, 17), (3, 9)]), 4, 40⟩ := by kernel_rfl
@[go_sem] theorem ze97 : zeroOf Tryd.prog 97 = some (.agg [.null, .null, .null, (.str ⟨#[]⟩)]) := by kernel_rfl
@[go_sem] theorem ty98 : tyOf Tryd.prog 98 = ⟨(.array 0 16), 0, 0⟩ := by kernel_rfl
@[go_sem] theorem ze98 : zeroOf Tryd.prog 98 = some (.agg []) := by kernel_rfl
@[go_sem] theorem ty99 : tyOf Tryd.prog 99 = ⟨(.struct [(0, 98)]), 0, 0⟩ := by kernel_rfl
@[go_sem] theorem ze99 : zeroOf Tryd.prog 99 = some (.agg []) := by kernel_rfl
@[go_sem] theorem ty100 : tyOf Tryd.prog 100 = ⟨(.struct [(0, 98)]), 0, 0⟩ := by kernel_rfl
@[go_sem] theorem ze100 : zeroOf Tryd.prog 100 = some (.agg []) := by kernel_rfl
@[go_sem] theorem ty102 : tyOf Tryd.prog 102 = ⟨(.int .u8), 1, 1⟩ := by kernel_rfl
@[go_sem] theorem ze102 : zeroOf Tryd.prog 102 = some (.int .u8 0) := by kernel_rfl
@[go_sem] theorem ty103 : tyOf Tryd.prog 103 = ⟨(.int .u8), 1, 1⟩ := by kernel_rfl
@[go_sem] theorem ze103 : zeroOf Tryd.prog 103 = some (.int .u8 0) := by kernel_rfl
@[go_sem] theorem ty105 : tyOf Tryd.prog 105 = ⟨(.int .i32), 1, 4⟩ := by kernel_rfl
@[go_sem] theorem ze105 : zeroOf Tryd.prog 105 = some (.int .i32 0) := by kernel_rfl
@[go_sem] theorem ty106 : tyOf Tryd.prog 106 = ⟨(.int .i32), 1, 4⟩ := by kernel_rfl
@[go_sem] theorem ze106 : zeroOf Tryd.prog 106 = some (.int .i32 0) := by kernel_rfl
@[go_sem] theorem ty107 : tyOf Tryd.prog 107 = ⟨(.struct [(0, 12), (1, 12), (2, 83), (3, 102), (4, 5), (5, 5), (6, 103), (7, 104), (8, 66), (9, 105), (10, 106)]), 11, 48⟩ := by kernel_rfl
@[go_sem] theorem ze107 : zeroOf Tryd.prog 107 = some (.agg [(.int .u64 0), (.int .u64 0), (.int .u32 0), (.int .u8 0), (.int .u8 0), (.int .u8 0), (.int .u8 0), .fn0, .null, (.int .i32 0), (.int .i32 0)]) := by kernel_rfl
@[go_sem] theorem ty108 : tyOf Tryd.prog 108 = ⟨(.struct [(0, 12), (1, 12), (2, 83), (3, 102), (4, 5), (5, 5), (6, 103), (7, 104), (8, 66), (9, 105), (10, 106)]), 11, 48⟩ := by kernel_rfl
@[go_sem] theorem ze108 : zeroOf Tryd.prog 108 = some (.agg [(.int .u64 0), (.int .u64 0), (.int .u32 0), (.int .u8 0), (.int .u8 0), (.int .u8 0), (.int .u8 0), .fn0, .null, (.int .i32 0), (.int .i32 0)]) := by kernel_rfl
end Go.Proofs.YtpfahanbkhgfhaaDoor.P41
