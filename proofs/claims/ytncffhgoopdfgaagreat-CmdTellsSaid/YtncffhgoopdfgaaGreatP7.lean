/- Part 7 of what the laws CmdTells rest on: AmT, AmTc, OcA, Wn, Va. -/
import Derived.Test.YtncffhgoopdfgaaGreatP6
import Derived.Lib.BytesEntry
import Derived.Lib.Bytealg
set_option linter.unusedSimpArgs false
set_option linter.unusedVariables false
namespace Go.Proofs.YtncffhgoopdfgaaGreat
open Go.Am
def tab : List (Option TI) := [
 some ⟨1, 0, some (.tuple #[]), .other⟩,
 some ⟨1, 8, some (.nilFunc), .func⟩,
 some ⟨1, 8, some (.int .i64 0), .int .i64⟩,
 some ⟨1, 8, some (.int .i64 0), .int .i64⟩,
 some ⟨1, 1, some (.bool false), .bool⟩,
 some ⟨1, 1, some (.int .u8 0), .int .u8⟩,
 some ⟨1, 1, some (.int .u8 0), .int .u8⟩,
 some ⟨4, 24, some (.agg #[.int .i64 0, .int .i64 0, .bool false, .int .u8 0]), .struct [(0, 1), (1, 1), (2, 1), (3, 1)]⟩,
 some ⟨4, 24, some (.agg #[.int .i64 0, .int .i64 0, .bool false, .int .u8 0]), .struct [(0, 1), (1, 1), (2, 1), (3, 1)]⟩,
 some ⟨1, 16, some (.string ⟨#[]⟩), .string⟩,
 some ⟨1, 16, some (.string ⟨#[]⟩), .string⟩,
 some ⟨1, 16, some (.string ⟨#[]⟩), .string⟩,
 some ⟨1, 8, some (.int .u64 0), .int .u64⟩,
 some ⟨2, 24, some (.agg #[.string ⟨#[]⟩, .int .u64 0]), .struct [(0, 1), (1, 1)]⟩,
 some ⟨2, 24, some (.agg #[.string ⟨#[]⟩, .int .u64 0]), .struct [(0, 1), (1, 1)]⟩,
 some ⟨1, 8, some (.pointer none), .pointer⟩,
 some ⟨1, 8, some (.pointer none), .pointer⟩,
 some ⟨1, 8, some (.pointer none), .pointer⟩,
 some ⟨1, 8, some (.agg #[.pointer none]), .struct [(0, 1)]⟩,
 some ⟨1, 8, some (.agg #[.pointer none]), .struct [(0, 1)]⟩,
 some ⟨1, 16, some (.nilIface), .iface⟩,
 some ⟨1, 4, some (.int .i32 0), .int .i32⟩,
 some ⟨1, 8, some (.float .f64 0), .float .f64⟩,
 some ⟨1, 24, some (.slice none 0 0), .slice 5⟩,
 some ⟨4, 48, some (.agg #[.bool false, .int .i64 0, .float .f64 0, .slice none 0 0]), .struct [(0, 1), (1, 1), (2, 1), (3, 1)]⟩,
 some ⟨4, 48, some (.agg #[.bool false, .int .i64 0, .float .f64 0, .slice none 0 0]), .struct [(0, 1), (1, 1), (2, 1), (3, 1)]⟩,
 some ⟨1, 24, some (.slice none 0 0), .slice 144⟩,
 some ⟨12, 120, some (.agg #[.int .i64 0, .int .i64 0, .int .i64 0, .int .i64 0, .int .i64 0, .bool false, .bool false, .bool false, .int .i64 0, .float .f64 0, .slice none 0 0, .slice none 0 0]), .struct [(0, 1), (1, 1), (2, 1), (3, 1), (4, 1), (5, 1), (6, 1), (7, 4), (11, 1)]⟩,
 some ⟨12, 120, some (.agg #[.int .i64 0, .int .i64 0, .int .i64 0, .int .i64 0, .int .i64 0, .bool false, .bool false, .bool false, .int .i64 0, .float .f64 0, .slice none 0 0, .slice none 0 0]), .struct [(0, 1), (1, 1), (2, 1), (3, 1), (4, 1), (5, 1), (6, 1), (7, 4), (11, 1)]⟩,
 some ⟨19, 192, some (.agg #[.int .i64 0, .int .i64 0, .int .i64 0, .int .i64 0, .int .i64 0, .int .i64 0, .int .i64 0, .int .i64 0, .int .i64 0, .int .i64 0, .int .i64 0, .bool false, .bool false, .bool false, .int .i64 0, .float .f64 0, .slice none 0 0, .slice none 0 0, .slice none 0 0]), .struct [(0, 1), (1, 1), (2, 1), (3, 1), (4, 1), (5, 1), (6, 12), (18, 1)]⟩,
 some ⟨19, 192, some (.agg #[.int .i64 0, .int .i64 0, .int .i64 0, .int .i64 0, .int .i64 0, .int .i64 0, .int .i64 0, .int .i64 0, .int .i64 0, .int .i64 0, .int .i64 0, .bool false, .bool false, .bool false, .int .i64 0, .float .f64 0, .slice none 0 0, .slice none 0 0, .slice none 0 0]), .struct [(0, 1), (1, 1), (2, 1), (3, 1), (4, 1), (5, 1), (6, 12), (18, 1)]⟩,
 some ⟨3, 40, some (.agg #[.int .i64 0, .slice none 0 0, .float .f64 0]), .struct [(0, 1), (1, 1), (2, 1)]⟩,
 some ⟨3, 40, some (.agg #[.int .i64 0, .slice none 0 0, .float .f64 0]), .struct [(0, 1), (1, 1), (2, 1)]⟩,
 some ⟨6, 64, some (.agg #[.bool false, .bool false, .string ⟨#[]⟩, .int .i64 0, .slice none 0 0, .float .f64 0]), .struct [(0, 1), (1, 1), (2, 1), (3, 3)]⟩,
 some ⟨6, 64, some (.agg #[.bool false, .bool false, .string ⟨#[]⟩, .int .i64 0, .slice none 0 0, .float .f64 0]), .struct [(0, 1), (1, 1), (2, 1), (3, 3)]⟩,
 some ⟨1, 24, some (.slice none 0 0), .slice 58⟩,
 some ⟨11, 136, some (.agg #[.int .i64 0, .string ⟨#[]⟩, .string ⟨#[]⟩, .bool false, .bool false, .string ⟨#[]⟩, .int .i64 0, .slice none 0 0, .float .f64 0, .slice none 0 0, .int .i64 0]), .struct [(0, 1), (1, 1), (2, 1), (3, 6), (9, 1), (10, 1)]⟩,
 some ⟨11, 136, some (.agg #[.int .i64 0, .string ⟨#[]⟩, .string ⟨#[]⟩, .bool false, .bool false, .string ⟨#[]⟩, .int .i64 0, .slice none 0 0, .float .f64 0, .slice none 0 0, .int .i64 0]), .struct [(0, 1), (1, 1), (2, 1), (3, 6), (9, 1), (10, 1)]⟩,
 some ⟨2, 32, some (.agg #[.string ⟨#[]⟩, .string ⟨#[]⟩]), .struct [(0, 1), (1, 1)]⟩,
 some ⟨2, 32, some (.agg #[.string ⟨#[]⟩, .string ⟨#[]⟩]), .struct [(0, 1), (1, 1)]⟩,
 some ⟨19, 240, some (.agg #[.int .i64 0, .int .i64 0, .string ⟨#[]⟩, .string ⟨#[]⟩, .bool false, .bool false, .string ⟨#[]⟩, .int .i64 0, .slice none 0 0, .float .f64 0, .slice none 0 0, .int .i64 0, .string ⟨#[]⟩, .string ⟨#[]⟩, .int .i64 0, .string ⟨#[]⟩, .int .i64 0, .int .i64 0, .slice none 0 0]), .struct [(0, 1), (1, 11), (12, 2), (14, 1), (15, 1), (16, 1), (17, 1), (18, 1)]⟩,
 some ⟨19, 240, some (.agg #[.int .i64 0, .int .i64 0, .string ⟨#[]⟩, .string ⟨#[]⟩, .bool false, .bool false, .string ⟨#[]⟩, .int .i64 0, .slice none 0 0, .float .f64 0, .slice none 0 0, .int .i64 0, .string ⟨#[]⟩, .string ⟨#[]⟩, .int .i64 0, .string ⟨#[]⟩, .int .i64 0, .int .i64 0, .slice none 0 0]), .struct [(0, 1), (1, 11), (12, 2), (14, 1), (15, 1), (16, 1), (17, 1), (18, 1)]⟩,
 some ⟨1, 8, some (.nilFunc), .func⟩,
 some ⟨1, 8, some (.nilFunc), .func⟩,
 some ⟨1, 8, some (.nilFunc), .func⟩,
 some ⟨1, 8, some (.nilFunc), .func⟩,
 some ⟨1, 8, some (.nilFunc), .func⟩,
 some ⟨1, 8, some (.nilFunc), .func⟩,
 some ⟨1, 8, some (.nilFunc), .func⟩,
 some ⟨1, 8, some (.nilFunc), .func⟩,
 some ⟨1, 24, some (.slice none 0 0), .slice 149⟩,
 some ⟨1, 24, some (.agg #[.slice none 0 0]), .struct [(0, 1)]⟩,
 some ⟨1, 24, some (.agg #[.slice none 0 0]), .struct [(0, 1)]⟩,
 some ⟨1, 8, some (.int .i64 0), .int .i64⟩,
 some ⟨1, 0, some (.tuple #[.agg #[.slice none 0 0], .int .i64 0]), .other⟩,
 some ⟨1, 8, some (.nilFunc), .func⟩,
 some ⟨1, 8, some (.nilFunc), .func⟩,
 some ⟨6, 72, some (.agg #[.int .i64 0, .string ⟨#[]⟩, .int .i64 0, .int .i64 0, .slice none 0 0, .float .f64 0]), .struct [(0, 1), (1, 1), (2, 1), (3, 3)]⟩,
 some ⟨6, 72, some (.agg #[.int .i64 0, .string ⟨#[]⟩, .int .i64 0, .int .i64 0, .slice none 0 0, .float .f64 0]), .struct [(0, 1), (1, 1), (2, 1), (3, 3)]⟩,
 some ⟨1, 24, some (.slice none 0 0), .slice 9⟩,
 some ⟨1, 24, some (.slice none 0 0), .slice 2⟩,
 some ⟨1, 8, some (.nilFunc), .func⟩,
 some ⟨1, 8, some (.nilFunc), .func⟩,
 some ⟨1, 8, some (.nilFunc), .func⟩,
 some ⟨1, 8, some (.nilFunc), .func⟩,
 some ⟨1, 8, some (.nilFunc), .func⟩,
 some ⟨1, 24, some (.slice none 0 0), .slice 34⟩,
 some ⟨1, 8, some (.nilFunc), .func⟩,
 some ⟨1, 8, some (.nilFunc), .func⟩,
 some ⟨1, 8, some (.nilFunc), .func⟩,
 some ⟨1, 8, some (.nilFunc), .func⟩,
 some ⟨1, 8, some (.nilFunc), .func⟩,
 some ⟨1, 24, some (.slice none 0 0), .slice 151⟩,
 some ⟨11, 144, some (.agg #[.int .i64 0, .slice none 0 0, .string ⟨#[]⟩, .string ⟨#[]⟩, .int .i64 0, .int .i64 0, .int .i64 0, .int .i64 0, .int .i64 0, .string ⟨#[]⟩, .slice none 0 0]), .struct [(0, 1), (1, 1), (2, 2), (4, 1), (5, 1), (6, 1), (7, 1), (8, 1), (9, 1), (10, 1)]⟩,
 some ⟨11, 144, some (.agg #[.int .i64 0, .slice none 0 0, .string ⟨#[]⟩, .string ⟨#[]⟩, .int .i64 0, .int .i64 0, .int .i64 0, .int .i64 0, .int .i64 0, .string ⟨#[]⟩, .slice none 0 0]), .struct [(0, 1), (1, 1), (2, 2), (4, 1), (5, 1), (6, 1), (7, 1), (8, 1), (9, 1), (10, 1)]⟩,
 some ⟨1, 8, some (.nilFunc), .func⟩,
 some ⟨1, 8, some (.nilFunc), .func⟩,
 some ⟨1, 24, some (.slice none 0 0), .slice 74⟩,
 some ⟨1, 8, some (.nilFunc), .func⟩,
 some ⟨1, 8, some (.nilFunc), .func⟩,
 some ⟨1, 8, some (.nilFunc), .func⟩,
 some ⟨1, 0, some (.tuple #[.slice none 0 0, .int .i64 0]), .other⟩,
 some ⟨1, 8, some (.nilFunc), .func⟩,
 some ⟨1, 0, some (.tuple #[.agg #[.int .i64 0, .slice none 0 0, .string ⟨#[]⟩, .string ⟨#[]⟩, .int .i64 0, .int .i64 0, .int .i64 0, .int .i64 0, .int .i64 0, .string ⟨#[]⟩, .slice none 0 0], .int .i64 0]), .other⟩,
 some ⟨1, 8, some (.nilFunc), .func⟩,
 some ⟨1, 8, some (.nilFunc), .func⟩,
 some ⟨1, 8, some (.nilFunc), .func⟩,
 some ⟨1, 8, some (.nilFunc), .func⟩,
 some ⟨1, 8, some (.nilFunc), .func⟩,
 some ⟨1, 8, some (.nilFunc), .func⟩,
 some ⟨1, 0, some (.tuple #[.agg #[.int .i64 0, .int .i64 0, .string ⟨#[]⟩, .string ⟨#[]⟩, .bool false, .bool false, .string ⟨#[]⟩, .int .i64 0, .slice none 0 0, .float .f64 0, .slice none 0 0, .int .i64 0, .string ⟨#[]⟩, .string ⟨#[]⟩, .int .i64 0, .string ⟨#[]⟩, .int .i64 0, .int .i64 0, .slice none 0 0], .int .i64 0]), .other⟩,
 some ⟨1, 8, some (.nilFunc), .func⟩,
 some ⟨1, 0, some (.tuple #[.agg #[.int .i64 0, .int .i64 0, .string ⟨#[]⟩, .string ⟨#[]⟩, .bool false, .bool false, .string ⟨#[]⟩, .int .i64 0, .slice none 0 0, .float .f64 0, .slice none 0 0, .int .i64 0, .string ⟨#[]⟩, .string ⟨#[]⟩, .int .i64 0, .string ⟨#[]⟩, .int .i64 0, .int .i64 0, .slice none 0 0], .bool false]), .other⟩,
 some ⟨1, 8, some (.nilFunc), .func⟩,
 some ⟨1, 8, some (.nilFunc), .func⟩,
 some ⟨1, 8, some (.nilFunc), .func⟩,
 some ⟨1, 8, some (.nilFunc), .func⟩,
 some ⟨1, 0, some (.tuple #[.agg #[.string ⟨#[]⟩, .string ⟨#[]⟩], .agg #[.string ⟨#[]⟩, .string ⟨#[]⟩], .bool false]), .other⟩,
 some ⟨1, 8, some (.nilFunc), .func⟩,
 some ⟨1, 0, some (.tuple #[.int .i64 0, .int .i64 0, .slice none 0 0, .bool false]), .other⟩,
 some ⟨1, 8, some (.nilFunc), .func⟩,
 some ⟨1, 8, some (.nilFunc), .func⟩,
 some ⟨1, 8, some (.nilFunc), .func⟩,
 some ⟨1, 8, some (.nilFunc), .func⟩,
 some ⟨1, 8, some (.nilFunc), .func⟩,
 some ⟨1, 4, some (.int .u32 0), .int .u32⟩,
 some ⟨1, 8, some (.nilFunc), .func⟩,
 some ⟨1, 8, some (.nilFunc), .func⟩,
 some ⟨1, 8, some (.nilFunc), .func⟩,
 some ⟨1, 8, some (.nilFunc), .func⟩,
 some ⟨1, 8, some (.nilFunc), .func⟩,
 some ⟨1, 8, some (.nilFunc), .func⟩,
 some ⟨1, 0, some (.tuple #[.agg #[.int .i64 0, .slice none 0 0, .float .f64 0], .bool false]), .other⟩,
 some ⟨1, 8, some (.nilFunc), .func⟩,
 some ⟨1, 8, some (.nilFunc), .func⟩,
 some ⟨1, 0, some (.tuple #[.agg #[.int .i64 0, .slice none 0 0, .float .f64 0], .int .i64 0]), .other⟩,
 some ⟨1, 8, some (.nilFunc), .func⟩,
 some ⟨1, 8, some (.nilFunc), .func⟩,
 some ⟨1, 8, some (.nilFunc), .func⟩,
 some ⟨1, 8, some (.nilFunc), .func⟩,
 some ⟨1, 8, some (.pointer none), .pointer⟩,
 some ⟨1, 8, some (.nilFunc), .func⟩,
 some ⟨1, 8, some (.nilFunc), .func⟩,
 some ⟨1, 8, some (.nilFunc), .func⟩,
 some ⟨1, 8, some (.nilFunc), .func⟩,
 some ⟨1, 8, some (.nilFunc), .func⟩,
 some ⟨1, 8, some (.nilFunc), .func⟩,
 some ⟨1, 8, some (.int .u64 0), .int .u64⟩,
 some ⟨1, 8, some (.nilFunc), .func⟩,
 some ⟨1, 8, some (.nilFunc), .func⟩,
 some ⟨1, 8, some (.pointer none), .pointer⟩,
 some ⟨1, 8, some (.nilFunc), .func⟩,
 some ⟨1, 8, some (.nilFunc), .func⟩,
 some ⟨1, 8, some (.nilFunc), .func⟩,
 some ⟨1, 8, some (.pointer none), .pointer⟩,
 some ⟨2, 32, some (.agg #[.slice none 0 0, .bool false]), .struct [(0, 1), (1, 1)]⟩,
 some ⟨2, 32, some (.agg #[.slice none 0 0, .bool false]), .struct [(0, 1), (1, 1)]⟩,
 some ⟨1, 8, some (.nilFunc), .func⟩,
 some ⟨1, 8, some (.nilFunc), .func⟩,
 some ⟨1, 8, some (.nilFunc), .func⟩,
 some ⟨1, 8, some (.nilFunc), .func⟩,
 some ⟨1, 8, some (.nilFunc), .func⟩,
 some ⟨1, 8, some (.nilFunc), .func⟩,
 some ⟨7, 72, some (.agg #[.int .i64 0, .int .i64 0, .int .i64 0, .bool false, .int .i64 0, .float .f64 0, .slice none 0 0]), .struct [(0, 1), (1, 1), (2, 1), (3, 4)]⟩,
 some ⟨7, 72, some (.agg #[.int .i64 0, .int .i64 0, .int .i64 0, .bool false, .int .i64 0, .float .f64 0, .slice none 0 0]), .struct [(0, 1), (1, 1), (2, 1), (3, 4)]⟩,
 some ⟨4, 48, some (.agg #[.int .i64 0, .int .i64 0, .slice none 0 0, .float .f64 0]), .struct [(0, 1), (1, 3)]⟩,
 some ⟨4, 48, some (.agg #[.int .i64 0, .int .i64 0, .slice none 0 0, .float .f64 0]), .struct [(0, 1), (1, 3)]⟩,
 some ⟨1, 24, some (.slice none 0 0), .slice 146⟩,
 some ⟨2, 40, some (.agg #[.string ⟨#[]⟩, .slice none 0 0]), .struct [(0, 1), (1, 1)]⟩,
 some ⟨2, 40, some (.agg #[.string ⟨#[]⟩, .slice none 0 0]), .struct [(0, 1), (1, 1)]⟩,
 some ⟨2, 40, some (.agg #[.string ⟨#[]⟩, .slice none 0 0]), .struct [(0, 1), (1, 1)]⟩,
 some ⟨2, 40, some (.agg #[.string ⟨#[]⟩, .slice none 0 0]), .struct [(0, 1), (1, 1)]⟩,
 some ⟨1, 8, some (.nilFunc), .func⟩,
 some ⟨1, 0, some (.tuple #[.agg #[.int .i64 0, .slice none 0 0, .string ⟨#[]⟩, .string ⟨#[]⟩, .int .i64 0, .int .i64 0, .int .i64 0, .int .i64 0, .int .i64 0, .string ⟨#[]⟩, .slice none 0 0], .bool false]), .other⟩,
 some ⟨1, 8, some (.nilFunc), .func⟩,
 some ⟨1, 8, some (.nilFunc), .func⟩,
 some ⟨1, 8, some (.nilFunc), .func⟩,
 some ⟨1, 8, some (.nilFunc), .func⟩,
 some ⟨1, 8, some (.nilFunc), .func⟩,
 some ⟨1, 8, some (.nilFunc), .func⟩,
 some ⟨1, 8, some (.nilFunc), .func⟩,
 some ⟨1, 8, some (.nilFunc), .func⟩,
 some ⟨1, 8, some (.nilFunc), .func⟩,
 some ⟨1, 8, some (.nilFunc), .func⟩,
 some ⟨1, 8, some (.nilFunc), .func⟩,
 some ⟨1, 8, some (.nilFunc), .func⟩,
 some ⟨1, 8, some (.nilFunc), .func⟩,
 some ⟨1, 8, some (.nilFunc), .func⟩,
 some ⟨1, 8, some (.nilFunc), .func⟩,
 some ⟨1, 8, some (.nilFunc), .func⟩,
 some ⟨1, 8, some (.nilFunc), .func⟩,
 some ⟨1, 8, some (.nilFunc), .func⟩,
 some ⟨1, 8, some (.nilFunc), .func⟩,
 some ⟨1, 8, some (.nilFunc), .func⟩,
 some ⟨1, 8, some (.nilFunc), .func⟩,
 some ⟨1, 8, some (.nilFunc), .func⟩,
 some ⟨1, 8, some (.nilFunc), .func⟩,
 some ⟨1, 8, some (.int .u64 0), .int .u64⟩,
 some ⟨1, 8, some (.nilFunc), .func⟩,
 some ⟨1, 8, some (.nilFunc), .func⟩,
 some ⟨1, 0, some (.tuple #[.int .i64 0, .bool false]), .other⟩,
 some ⟨1, 8, some (.nilFunc), .func⟩,
 some ⟨1, 8, some (.nilFunc), .func⟩,
 some ⟨1, 8, some (.nilFunc), .func⟩,
 some ⟨1, 8, some (.nilFunc), .func⟩,
 some ⟨1, 8, some (.nilFunc), .func⟩,
 some ⟨1, 8, some (.nilFunc), .func⟩,
 some ⟨1, 8, some (.nilFunc), .func⟩,
 some ⟨1, 0, some (.tuple #[.bool false, .bool false, .bool false, .bool false]), .other⟩,
 some ⟨1, 8, some (.nilFunc), .func⟩,
 some ⟨1, 24, some (.agg #[.slice none 0 0]), .struct [(0, 1)]⟩,
 some ⟨1, 24, some (.agg #[.slice none 0 0]), .struct [(0, 1)]⟩,
 some ⟨1, 8, some (.nilFunc), .func⟩,
 some ⟨1, 8, some (.nilFunc), .func⟩,
 some ⟨1, 8, some (.nilFunc), .func⟩,
 some ⟨1, 8, some (.nilFunc), .func⟩,
 some ⟨1, 24, some (.agg #[.slice none 0 0]), .struct [(0, 1)]⟩,
 some ⟨1, 8, some (.nilFunc), .func⟩,
 some ⟨1, 8, some (.nilFunc), .func⟩,
 some ⟨1, 8, some (.nilFunc), .func⟩,
 some ⟨1, 8, some (.nilFunc), .func⟩,
 some ⟨1, 8, some (.nilFunc), .func⟩,
 some ⟨1, 8, some (.nilFunc), .func⟩,
 some ⟨1, 8, some (.nilFunc), .func⟩,
 some ⟨1, 8, some (.nilFunc), .func⟩,
 some ⟨1, 8, some (.nilFunc), .func⟩,
 some ⟨1, 8, some (.nilFunc), .func⟩,
 some ⟨1, 8, some (.nilFunc), .func⟩,
 some ⟨1, 8, some (.nilFunc), .func⟩,
 some ⟨1, 8, some (.nilFunc), .func⟩,
 some ⟨1, 8, some (.nilFunc), .func⟩,
 some ⟨1, 8, some (.nilFunc), .func⟩,
 some ⟨1, 8, some (.nilFunc), .func⟩,
 some ⟨1, 8, some (.nilFunc), .func⟩,
 some ⟨1, 8, some (.nilFunc), .func⟩,
 some ⟨1, 8, some (.nilFunc), .func⟩,
 some ⟨1, 8, some (.nilFunc), .func⟩,
 some ⟨1, 8, some (.nilFunc), .func⟩,
 some ⟨1, 8, some (.nilFunc), .func⟩,
 some ⟨1, 8, some (.nilFunc), .func⟩,
 some ⟨1, 8, some (.nilFunc), .func⟩,
 some ⟨1, 8, some (.nilFunc), .func⟩,
 some ⟨1, 8, some (.nilFunc), .func⟩,
 some ⟨1, 8, some (.nilFunc), .func⟩,
 some ⟨1, 8, some (.nilFunc), .func⟩,
 some ⟨1, 8, some (.nilFunc), .func⟩,
 some ⟨1, 8, some (.nilFunc), .func⟩,
 some ⟨1, 8, some (.nilFunc), .func⟩,
 some ⟨1, 8, some (.nilFunc), .func⟩,
 some ⟨1, 8, some (.nilFunc), .func⟩,
 some ⟨1, 8, some (.nilFunc), .func⟩,
 some ⟨1, 8, some (.nilFunc), .func⟩,
 some ⟨1, 8, some (.nilFunc), .func⟩,
 some ⟨1, 8, some (.nilFunc), .func⟩,
 some ⟨1, 8, some (.nilFunc), .func⟩,
 some ⟨1, 8, some (.nilFunc), .func⟩,
 some ⟨1, 8, some (.nilFunc), .func⟩,
 some ⟨1, 8, some (.nilFunc), .func⟩,
 some ⟨1, 8, some (.nilFunc), .func⟩,
 some ⟨4, 40, some (.agg #[.pointer none, .pointer none, .pointer none, .string ⟨#[]⟩]), .struct [(0, 1), (1, 1), (2, 1), (3, 1)]⟩,
 some ⟨4, 40, some (.agg #[.pointer none, .pointer none, .pointer none, .string ⟨#[]⟩]), .struct [(0, 1), (1, 1), (2, 1), (3, 1)]⟩,
 some ⟨0, 0, some (.agg #[]), .array 0 16⟩,
 some ⟨0, 0, some (.agg #[]), .struct [(0, 0)]⟩,
 some ⟨0, 0, some (.agg #[]), .struct [(0, 0)]⟩,
 some ⟨1, 8, some (.nilFunc), .func⟩,
 some ⟨1, 1, some (.int .u8 0), .int .u8⟩,
 some ⟨1, 1, some (.int .u8 0), .int .u8⟩,
 some ⟨1, 8, some (.nilFunc), .func⟩,
 some ⟨1, 8, some (.pointer none), .pointer⟩,
 some ⟨1, 4, some (.int .i32 0), .int .i32⟩,
 some ⟨1, 4, some (.int .i32 0), .int .i32⟩,
 some ⟨11, 48, some (.agg #[.int .u64 0, .int .u64 0, .int .u32 0, .int .u8 0, .int .u8 0, .int .u8 0, .int .u8 0, .nilFunc, .pointer none, .int .i32 0, .int .i32 0]), .struct [(0, 1), (1, 1), (2, 1), (3, 1), (4, 1), (5, 1), (6, 1), (7, 1), (8, 1), (9, 1), (10, 1)]⟩,
 some ⟨11, 48, some (.agg #[.int .u64 0, .int .u64 0, .int .u32 0, .int .u8 0, .int .u8 0, .int .u8 0, .int .u8 0, .nilFunc, .pointer none, .int .i32 0, .int .i32 0]), .struct [(0, 1), (1, 1), (2, 1), (3, 1), (4, 1), (5, 1), (6, 1), (7, 1), (8, 1), (9, 1), (10, 1)]⟩,
 some ⟨1, 8, some (.pointer none), .other⟩]
def getT : List (Option TI) → Nat → Option TI
 | [], _ => none
 | x :: _, 0 => x
 | _ :: l, n + 1 => getT l n
theorem getT_eq (l : List (Option TI)) (n : Nat) : getT l n = (l[n]?).getD none := by
 induction l generalizing n with
 | nil => rfl
 | cons a l ih => cases n <;> simp [getT, ih]
def TT : Types := fun t => getT tab t
theorem tab_is : (List.range 254).map (tiOf Tryz.prog) = tab := by kernel_rfl
theorem tok : TOk Tryz.prog TT := fun t ti h => by
 unfold TT at h
 rw [getT_eq, ← tab_is] at h
 by_cases ht : t < 254
 ·simpa [ht] using h
 ·simp [ht] at h
abbrev DD := draw Tryz.prog TT
theorem dok : DOk Tryz.prog DD := draw_ok tok (by kernel_rfl)
end Go.Proofs.YtncffhgoopdfgaaGreat
namespace Go.Am
open Go.RowKit
section
variable {P : Program} {TT : Types} {D : Dr} {all rest : List Oper} {o : Oper} {s s' : List AV} {L L' L'' : Heap} {n n' : Nat} {K : Kn} {KP : AV → Kn} {av : AV} {Kk : Kc}
def killK : List Oper → List AV → (List AV → Prop) → Prop
 | [], s, k => k s
 | o :: os, s, k => putD s o.dst .dead fun s' => killK os s' k
theorem killK_eq : ∀ (os : List Oper) (s : List AV) (k : List AV → Prop), killK os s k = k (killA os s)
 | [], s, k => rfl
 | o :: os, s, k => by
  unfold killK
  rw [putD_eq, killK_eq os]
  rfl
theorem k_effP2 {x : AV} (hs : ∀ k : List AV → Prop, k s' → killK all s k) (h : KP x s' L n) : effP all s KP x L n := by
 have := hs (fun s => KP x s L n) h
 rwa [killK_eq] at this
theorem is_effP {x : AV} (h : effP all s KP x L n) : effP all s KP x L n := h
def skipK (all : List Oper) (pr : List Nat) (E S : Nat) : List Nat → (List Nat → Prop) → Prop
 | [], k => k []
 | j :: js, k => match all[j]? with
  | none => k (j :: js)
  | some o => match isE o || (inM E j || !(avM (pr.getD j 0) E S)) with
   | true => skipK all pr E S js k
   | false => k (j :: js)
theorem skipK_eq {P : Program} {TT : Types} {all : List Oper} {pr : List Nat} {E S : Nat} {L : Heap} {s : List AV} {n : Nat} {k : Nat → List AV → Nat → Prop} : ∀ (js : List Nat), skipK all pr E S js (fun js' => evGoM P TT all pr S L js' E s n k) → evGoM P TT all pr S L js E s n k
 | [], h => h
 | j :: js, h => by
  unfold skipK at h
  split at h
  ·exact h
  ·rename_i o hj
   split at h
   ·rename_i hc
    exact v_skip hj hc (skipK_eq js h)
   ·exact h
theorem v_skips {P : Program} {TT : Types} {all : List Oper} {pr : List Nat} {E S : Nat} {js js' : List Nat} {L : Heap} {s : List AV} {n j : Nat} {o : Oper} {k : Nat → List AV → Nat → Prop} (hj : all[j]? = some o) (hc : (isE o || (inM E j || !(avM (pr.getD j 0) E S))) = true) (hs : ∀ k : List Nat → Prop, k js' → skipK all pr E S js k)
  (h : evGoM P TT all pr S L js' E s n k) : evGoM P TT all pr S L (j :: js) E s n k :=
 v_skip hj hc (skipK_eq js (hs (fun js' => evGoM P TT all pr S L js' E s n k) h))
structure Tag (q : Prop) : Prop where
 out : q
theorem awd {p q : Prop} (h : q) (f : Tag q → p := by (intro hTag; (repeat' (first | ((with_reducible refine no_implicit_lambda% (zA ?_)); first | (refine no_implicit_lambda% (o_op rfl ?_)) | (refine no_implicit_lambda% (o_yes rfl rfl rfl ?_)) | (refine no_implicit_lambda% (o_no rfl rfl rfl (fun _ h => h) ?_)) | (refine no_implicit_lambda% (o_not rfl rfl rfl (fun _ h => h) ?_))) | ((with_reducible refine no_implicit_lambda% (is_opK ?_)); first | (refine no_implicit_lambda% (k_op' (fun _ h => h) ?_))) | ((with_reducible refine no_implicit_lambda% (zC ?_)); first | (refine no_implicit_lambda% (a_q1 rfl (fun _ h => h) ?_)) | (refine no_implicit_lambda% (a_box rfl (fun _ h => h) ?_)) | (refine no_implicit_lambda% (a_alloc rfl (fun _ h => h) ?_)) | (refine no_implicit_lambda% (a_storev rfl (fun _ h => h) ?_)) | (refine no_implicit_lambda% (a_store rfl (fun _ h => h) ?_)) | (refine no_implicit_lambda% (a_panic rfl rfl ?_))) | ((with_reducible refine no_implicit_lambda% (zC ?_)); first | (refine no_implicit_lambda% (a_append_tok rfl rfl rfl rfl rfl rfl rfl rfl rfl rfl rfl rfl rfl rfl (by first | rfl | (simp; done)) (fun _ h => h) (by (first | assumption | (intro row hr; simp only [List.mem_cons, List.not_mem_nil, or_false] at hr; rcases hr with rfl | rfl | rfl | rfl <;> rfl) | (intro row hr; simp at hr; done) | (intro row hr; simp only [List.mem_singleton] at hr; subst hr; rfl) | (intro row hr; obtain ⟨_, _, rfl⟩ := List.mem_map.1 hr; rfl))) (by (refine ⟨?_, ?_⟩ <;> (simp only [List.length_map, List.length_append, List.length_cons, List.length_nil]; omega))) ?_)) | (refine no_implicit_lambda% (a_append_full rfl rfl rfl rfl rfl rfl rfl rfl rfl rfl rfl rfl (by (first | assumption | (intro row hr; simp only [List.mem_cons, List.not_mem_nil, or_false] at hr; rcases hr with rfl | rfl | rfl | rfl <;> rfl) | (intro row hr; simp at hr; done) | (intro row hr; simp only [List.mem_singleton] at hr; subst hr; rfl) | (intro row hr; obtain ⟨_, _, rfl⟩ := List.mem_map.1 hr; rfl))) (by (first | assumption | (intro row hr; simp only [List.mem_cons, List.not_mem_nil, or_false] at hr; rcases hr with rfl | rfl | rfl | rfl <;> rfl) | (intro row hr; simp at hr; done) | (intro row hr; simp only [List.mem_singleton] at hr; subst hr; rfl) | (intro row hr; obtain ⟨_, _, rfl⟩ := List.mem_map.1 hr; rfl))) (by (refine ⟨?_, ?_⟩ <;> (simp only [List.length_map, List.length_append, List.length_cons, List.length_nil]; omega))) ?_))) | (first | (with_reducible refine no_implicit_lambda% (c_seq ?_)) | (with_reducible refine no_implicit_lambda% (c_region ?_)) | (with_reducible refine no_implicit_lambda% (c_ret ?_)) | (with_reducible refine no_implicit_lambda% (c_skip ?_)) | (with_reducible refine no_implicit_lambda% (c_block ?_)) | (with_reducible refine no_implicit_lambda% (c_exit ?_)) | (with_reducible refine no_implicit_lambda% (o_nil ?_)) | (with_reducible refine no_implicit_lambda% (k_seq ?_)) | (with_reducible refine no_implicit_lambda% (k_seq_ret ?_)) | (with_reducible refine no_implicit_lambda% (k_seq_exit ?_)) | (with_reducible refine no_implicit_lambda% (k_seq_pan ?_)) | (with_reducible refine no_implicit_lambda% (k_block ?_)) | (with_reducible refine no_implicit_lambda% (k_block_ret ?_)) | (with_reducible refine no_implicit_lambda% (k_block_pan ?_)) | ((with_reducible refine no_implicit_lambda% (is_blockx ?_)); first | (refine no_implicit_lambda% (k_block_here rfl ?_)) | (refine no_implicit_lambda% (k_block_on rfl ?_))) | (with_reducible refine no_implicit_lambda% (k_pan ?_)) | (with_reducible refine no_implicit_lambda% (k_opP ?_)) | (with_reducible refine no_implicit_lambda% (k_loop_ret ?_)) | (with_reducible refine no_implicit_lambda% (k_loop_exit ?_)) | (with_reducible refine no_implicit_lambda% (k_loop_pan ?_)) | (with_reducible refine no_implicit_lambda% (e_end ?_))) | (((with_reducible refine no_implicit_lambda% (zB ?_)); first | (refine no_implicit_lambda% (c_true rfl ?_)) | (refine no_implicit_lambda% (c_false rfl ?_)))) | ((with_reducible refine no_implicit_lambda% (c_draw ?_)); refine no_implicit_lambda% (d_start (by kernel_rfl) (fun _ h => h) (fun _ h => h) ?_)) | (first | (with_reducible refine no_implicit_lambda% (v_nil ?_)) | ((with_reducible refine no_implicit_lambda% (is_ev ?_)); first | (refine no_implicit_lambda% (v_skips rfl rfl (fun _ h => h) ?_)) | (refine no_implicit_lambda% (v_q rfl rfl rfl rfl (fun _ h => h) (fun _ h => h) ?_)) | (refine no_implicit_lambda% (v_alloc rfl rfl rfl (fun _ h => h) rfl ?_)) | (refine no_implicit_lambda% (v_no rfl rfl rfl rfl rfl rfl (fun _ h => h) ?_)) | (refine no_implicit_lambda% (v_yes rfl rfl rfl rfl rfl rfl (fun _ h => h) (fun _ h => h) ?_)) | (refine no_implicit_lambda% (v_not rfl rfl rfl rfl rfl rfl (fun _ h => h) ?_)))) | ((with_reducible refine no_implicit_lambda% (is_drB ?_)); first | (refine no_implicit_lambda% (b_end rfl rfl (fun _ h => h) (fun _ h => h) ?_)) | (refine no_implicit_lambda% (b_eff rfl rfl rfl rfl (fun _ h => h) (fun _ h => h) rfl ?_)) | (refine no_implicit_lambda% (b_no rfl rfl rfl rfl (fun _ h => h) (fun _ h => h) rfl rfl rfl (fun _ h => h) (fun _ h => h) ?_)) | (refine no_implicit_lambda% (b_yes rfl rfl rfl rfl (fun _ h => h) (fun _ h => h) rfl rfl rfl ?_)) | (refine no_implicit_lambda% (b_not rfl rfl rfl rfl (fun _ h => h) (fun _ h => h) rfl rfl rfl (fun _ h => h) (fun _ h => h) ?_))) | ((with_reducible refine no_implicit_lambda% (is_effK ?_)); refine no_implicit_lambda% (k_eff (fun _ h => h) (fun _ h => h) (fun _ h => h) (by intro k h; repeat (first | exact h | refine ⟨rfl, ?_⟩ | refine ⟨trivial, ?_⟩)) ?_)) | ((with_reducible refine no_implicit_lambda% (zC ?_)); refine no_implicit_lambda% (a_qS rfl (qIx (fun _ h => h)) (by first | assumption | exact hpx (by assumption) | exact hpy (by assumption)) ?_)) | ((with_reducible refine no_implicit_lambda% (is_ev ?_)); first | (refine no_implicit_lambda% (v_qS rfl rfl rfl rfl (qIx (fun _ h => h)) (fun _ h => h) (by first | assumption | exact hpx (by assumption) | exact hpy (by assumption)) ?_)) | (refine no_implicit_lambda% (v_yesS rfl rfl rfl rfl rfl rfl (qIx (fun _ h => h)) (fun _ h => h) (by first | assumption | exact hpx (by assumption) | exact hpy (by assumption)) ?_))) | ((with_reducible refine no_implicit_lambda% (zC ?_)); refine no_implicit_lambda% (a_qS rfl (qStr (fun _ h => h)) rfl ?_)) | ((with_reducible refine no_implicit_lambda% (is_ev ?_)); first | (refine no_implicit_lambda% (v_qS rfl rfl rfl rfl (qStr (fun _ h => h)) (fun _ h => h) rfl ?_)) | (refine no_implicit_lambda% (v_yesS rfl rfl rfl rfl rfl rfl (qStr (fun _ h => h)) (fun _ h => h) rfl ?_))) | ((with_reducible refine no_implicit_lambda% (zC ?_)); refine no_implicit_lambda% (a_qS rfl (fun _ h => h) (by decide) ?_)) | ((with_reducible refine no_implicit_lambda% (is_ev ?_)); first | (refine no_implicit_lambda% (v_qS rfl rfl rfl rfl (fun _ h => h) (fun _ h => h) (by decide) ?_)) | (refine no_implicit_lambda% (v_yesS rfl rfl rfl rfl rfl rfl (fun _ h => h) (fun _ h => h) (by decide) ?_))) | ((with_reducible refine no_implicit_lambda% (is_effP ?_)); refine no_implicit_lambda% (k_effP2 (fun _ h => h) ?_)) | fail)); exact Tag.out hTag)) : p := f ⟨h⟩
theorem awdz {p q : Prop} (h : q) (f : Tag q → p := by (intro hTag; (repeat' (first | ((with_reducible refine no_implicit_lambda% (zA ?_)); first | (refine no_implicit_lambda% (o_op rfl ?_)) | (refine no_implicit_lambda% (o_yes rfl rfl rfl ?_)) | (refine no_implicit_lambda% (o_no rfl rfl rfl (fun _ h => h) ?_)) | (refine no_implicit_lambda% (o_not rfl rfl rfl (fun _ h => h) ?_))) | ((with_reducible refine no_implicit_lambda% (is_opK ?_)); first | (refine no_implicit_lambda% (k_op' (fun _ h => h) ?_))) | ((with_reducible refine no_implicit_lambda% (zC ?_)); first | (refine no_implicit_lambda% (a_q1 rfl (fun _ h => h) ?_)) | (refine no_implicit_lambda% (a_box rfl (fun _ h => h) ?_)) | (refine no_implicit_lambda% (a_alloc rfl (fun _ h => h) ?_)) | (refine no_implicit_lambda% (a_storev rfl (fun _ h => h) ?_)) | (refine no_implicit_lambda% (a_store rfl (fun _ h => h) ?_)) | (refine no_implicit_lambda% (a_panic rfl rfl ?_))) | (first | (with_reducible refine no_implicit_lambda% (c_seq ?_)) | (with_reducible refine no_implicit_lambda% (c_region ?_)) | (with_reducible refine no_implicit_lambda% (c_ret ?_)) | (with_reducible refine no_implicit_lambda% (c_skip ?_)) | (with_reducible refine no_implicit_lambda% (c_block ?_)) | (with_reducible refine no_implicit_lambda% (c_exit ?_)) | (with_reducible refine no_implicit_lambda% (o_nil ?_)) | (with_reducible refine no_implicit_lambda% (k_seq ?_)) | (with_reducible refine no_implicit_lambda% (k_seq_ret ?_)) | (with_reducible refine no_implicit_lambda% (k_seq_exit ?_)) | (with_reducible refine no_implicit_lambda% (k_seq_pan ?_)) | (with_reducible refine no_implicit_lambda% (k_block ?_)) | (with_reducible refine no_implicit_lambda% (k_block_ret ?_)) | (with_reducible refine no_implicit_lambda% (k_block_pan ?_)) | ((with_reducible refine no_implicit_lambda% (is_blockx ?_)); first | (refine no_implicit_lambda% (k_block_here rfl ?_)) | (refine no_implicit_lambda% (k_block_on rfl ?_))) | (with_reducible refine no_implicit_lambda% (k_pan ?_)) | (with_reducible refine no_implicit_lambda% (k_opP ?_)) | (with_reducible refine no_implicit_lambda% (k_loop_ret ?_)) | (with_reducible refine no_implicit_lambda% (k_loop_exit ?_)) | (with_reducible refine no_implicit_lambda% (k_loop_pan ?_)) | (with_reducible refine no_implicit_lambda% (e_end ?_))) | (((with_reducible refine no_implicit_lambda% (zB ?_)); first | (refine no_implicit_lambda% (c_true rfl ?_)) | (refine no_implicit_lambda% (c_false rfl ?_)))) | ((with_reducible refine no_implicit_lambda% (c_draw ?_)); refine no_implicit_lambda% (d_start (by kernel_rfl) (fun _ h => h) (fun _ h => h) ?_)) | (first | (with_reducible refine no_implicit_lambda% (v_nil ?_)) | ((with_reducible refine no_implicit_lambda% (is_ev ?_)); first | (refine no_implicit_lambda% (v_skips rfl rfl (fun _ h => h) ?_)) | (refine no_implicit_lambda% (v_q rfl rfl rfl rfl (fun _ h => h) (fun _ h => h) ?_)) | (refine no_implicit_lambda% (v_alloc rfl rfl rfl (fun _ h => h) rfl ?_)) | (refine no_implicit_lambda% (v_no rfl rfl rfl rfl rfl rfl (fun _ h => h) ?_)) | (refine no_implicit_lambda% (v_yes rfl rfl rfl rfl rfl rfl (fun _ h => h) (fun _ h => h) ?_)) | (refine no_implicit_lambda% (v_not rfl rfl rfl rfl rfl rfl (fun _ h => h) ?_)))) | ((with_reducible refine no_implicit_lambda% (is_drB ?_)); first | (refine no_implicit_lambda% (b_end rfl rfl (fun _ h => h) (fun _ h => h) ?_)) | (refine no_implicit_lambda% (b_eff rfl rfl rfl rfl (fun _ h => h) (fun _ h => h) rfl ?_)) | (refine no_implicit_lambda% (b_no rfl rfl rfl rfl (fun _ h => h) (fun _ h => h) rfl rfl rfl (fun _ h => h) (fun _ h => h) ?_)) | (refine no_implicit_lambda% (b_yes rfl rfl rfl rfl (fun _ h => h) (fun _ h => h) rfl rfl rfl ?_)) | (refine no_implicit_lambda% (b_not rfl rfl rfl rfl (fun _ h => h) (fun _ h => h) rfl rfl rfl (fun _ h => h) (fun _ h => h) ?_))) | ((with_reducible refine no_implicit_lambda% (is_effK ?_)); refine no_implicit_lambda% (k_eff (fun _ h => h) (fun _ h => h) (fun _ h => h) (by intro k h; repeat (first | exact h | refine ⟨rfl, ?_⟩ | refine ⟨trivial, ?_⟩)) ?_)) | ((with_reducible refine no_implicit_lambda% (zC ?_)); refine no_implicit_lambda% (a_qS rfl (qIx (fun _ h => h)) (by first | assumption | exact hpx (by assumption) | exact hpy (by assumption)) ?_)) | ((with_reducible refine no_implicit_lambda% (is_ev ?_)); first | (refine no_implicit_lambda% (v_qS rfl rfl rfl rfl (qIx (fun _ h => h)) (fun _ h => h) (by first | assumption | exact hpx (by assumption) | exact hpy (by assumption)) ?_)) | (refine no_implicit_lambda% (v_yesS rfl rfl rfl rfl rfl rfl (qIx (fun _ h => h)) (fun _ h => h) (by first | assumption | exact hpx (by assumption) | exact hpy (by assumption)) ?_))) | ((with_reducible refine no_implicit_lambda% (zC ?_)); refine no_implicit_lambda% (a_qS rfl (qStr (fun _ h => h)) rfl ?_)) | ((with_reducible refine no_implicit_lambda% (is_ev ?_)); first | (refine no_implicit_lambda% (v_qS rfl rfl rfl rfl (qStr (fun _ h => h)) (fun _ h => h) rfl ?_)) | (refine no_implicit_lambda% (v_yesS rfl rfl rfl rfl rfl rfl (qStr (fun _ h => h)) (fun _ h => h) rfl ?_))) | ((with_reducible refine no_implicit_lambda% (zC ?_)); refine no_implicit_lambda% (a_qS rfl (fun _ h => h) (by decide) ?_)) | ((with_reducible refine no_implicit_lambda% (is_ev ?_)); first | (refine no_implicit_lambda% (v_qS rfl rfl rfl rfl (fun _ h => h) (fun _ h => h) (by decide) ?_)) | (refine no_implicit_lambda% (v_yesS rfl rfl rfl rfl rfl rfl (fun _ h => h) (fun _ h => h) (by decide) ?_))) | ((with_reducible refine no_implicit_lambda% (is_effP ?_)); refine no_implicit_lambda% (k_effP2 (fun _ h => h) ?_)) | fail)); exact Tag.out hTag)) : p := f ⟨h⟩
theorem zH {p q : Prop} (h : q) (f : Tag q → p := by (intro hTag; (first | ((with_reducible refine no_implicit_lambda% (zA ?_)); first | (refine no_implicit_lambda% (o_op rfl ?_)) | (refine no_implicit_lambda% (o_yes rfl rfl rfl ?_)) | (refine no_implicit_lambda% (o_no rfl rfl rfl (fun _ h => h) ?_)) | (refine no_implicit_lambda% (o_not rfl rfl rfl (fun _ h => h) ?_))) | ((with_reducible refine no_implicit_lambda% (is_opK ?_)); first | (refine no_implicit_lambda% (k_op' (fun _ h => h) ?_))) | ((with_reducible refine no_implicit_lambda% (zC ?_)); first | (refine no_implicit_lambda% (a_q1 rfl (fun _ h => h) ?_)) | (refine no_implicit_lambda% (a_box rfl (fun _ h => h) ?_)) | (refine no_implicit_lambda% (a_alloc rfl (fun _ h => h) ?_)) | (refine no_implicit_lambda% (a_storev rfl (fun _ h => h) ?_)) | (refine no_implicit_lambda% (a_store rfl (fun _ h => h) ?_)) | (refine no_implicit_lambda% (a_panic rfl rfl ?_))) | ((with_reducible refine no_implicit_lambda% (zC ?_)); first | (refine no_implicit_lambda% (a_append_tok rfl rfl rfl rfl rfl rfl rfl rfl rfl rfl rfl rfl rfl rfl (by first | rfl | (simp; done)) (fun _ h => h) (by (first | assumption | (intro row hr; simp only [List.mem_cons, List.not_mem_nil, or_false] at hr; rcases hr with rfl | rfl | rfl | rfl <;> rfl) | (intro row hr; simp at hr; done) | (intro row hr; simp only [List.mem_singleton] at hr; subst hr; rfl) | (intro row hr; obtain ⟨_, _, rfl⟩ := List.mem_map.1 hr; rfl))) (by (refine ⟨?_, ?_⟩ <;> (simp only [List.length_map, List.length_append, List.length_cons, List.length_nil]; omega))) ?_)) | (refine no_implicit_lambda% (a_append_full rfl rfl rfl rfl rfl rfl rfl rfl rfl rfl rfl rfl (by (first | assumption | (intro row hr; simp only [List.mem_cons, List.not_mem_nil, or_false] at hr; rcases hr with rfl | rfl | rfl | rfl <;> rfl) | (intro row hr; simp at hr; done) | (intro row hr; simp only [List.mem_singleton] at hr; subst hr; rfl) | (intro row hr; obtain ⟨_, _, rfl⟩ := List.mem_map.1 hr; rfl))) (by (first | assumption | (intro row hr; simp only [List.mem_cons, List.not_mem_nil, or_false] at hr; rcases hr with rfl | rfl | rfl | rfl <;> rfl) | (intro row hr; simp at hr; done) | (intro row hr; simp only [List.mem_singleton] at hr; subst hr; rfl) | (intro row hr; obtain ⟨_, _, rfl⟩ := List.mem_map.1 hr; rfl))) (by (refine ⟨?_, ?_⟩ <;> (simp only [List.length_map, List.length_append, List.length_cons, List.length_nil]; omega))) ?_))) | (first | (with_reducible refine no_implicit_lambda% (c_seq ?_)) | (with_reducible refine no_implicit_lambda% (c_region ?_)) | (with_reducible refine no_implicit_lambda% (c_ret ?_)) | (with_reducible refine no_implicit_lambda% (c_skip ?_)) | (with_reducible refine no_implicit_lambda% (c_block ?_)) | (with_reducible refine no_implicit_lambda% (c_exit ?_)) | (with_reducible refine no_implicit_lambda% (o_nil ?_)) | (with_reducible refine no_implicit_lambda% (k_seq ?_)) | (with_reducible refine no_implicit_lambda% (k_seq_ret ?_)) | (with_reducible refine no_implicit_lambda% (k_seq_exit ?_)) | (with_reducible refine no_implicit_lambda% (k_seq_pan ?_)) | (with_reducible refine no_implicit_lambda% (k_block ?_)) | (with_reducible refine no_implicit_lambda% (k_block_ret ?_)) | (with_reducible refine no_implicit_lambda% (k_block_pan ?_)) | ((with_reducible refine no_implicit_lambda% (is_blockx ?_)); first | (refine no_implicit_lambda% (k_block_here rfl ?_)) | (refine no_implicit_lambda% (k_block_on rfl ?_))) | (with_reducible refine no_implicit_lambda% (k_pan ?_)) | (with_reducible refine no_implicit_lambda% (k_opP ?_)) | (with_reducible refine no_implicit_lambda% (k_loop_ret ?_)) | (with_reducible refine no_implicit_lambda% (k_loop_exit ?_)) | (with_reducible refine no_implicit_lambda% (k_loop_pan ?_)) | (with_reducible refine no_implicit_lambda% (e_end ?_))) | (((with_reducible refine no_implicit_lambda% (zB ?_)); first | (refine no_implicit_lambda% (c_true rfl ?_)) | (refine no_implicit_lambda% (c_false rfl ?_)))) | ((with_reducible refine no_implicit_lambda% (c_draw ?_)); refine no_implicit_lambda% (d_start (by kernel_rfl) (fun _ h => h) (fun _ h => h) ?_)) | (first | (with_reducible refine no_implicit_lambda% (v_nil ?_)) | ((with_reducible refine no_implicit_lambda% (is_ev ?_)); first | (refine no_implicit_lambda% (v_skips rfl rfl (fun _ h => h) ?_)) | (refine no_implicit_lambda% (v_q rfl rfl rfl rfl (fun _ h => h) (fun _ h => h) ?_)) | (refine no_implicit_lambda% (v_alloc rfl rfl rfl (fun _ h => h) rfl ?_)) | (refine no_implicit_lambda% (v_no rfl rfl rfl rfl rfl rfl (fun _ h => h) ?_)) | (refine no_implicit_lambda% (v_yes rfl rfl rfl rfl rfl rfl (fun _ h => h) (fun _ h => h) ?_)) | (refine no_implicit_lambda% (v_not rfl rfl rfl rfl rfl rfl (fun _ h => h) ?_)))) | ((with_reducible refine no_implicit_lambda% (is_drB ?_)); first | (refine no_implicit_lambda% (b_end rfl rfl (fun _ h => h) (fun _ h => h) ?_)) | (refine no_implicit_lambda% (b_eff rfl rfl rfl rfl (fun _ h => h) (fun _ h => h) rfl ?_)) | (refine no_implicit_lambda% (b_no rfl rfl rfl rfl (fun _ h => h) (fun _ h => h) rfl rfl rfl (fun _ h => h) (fun _ h => h) ?_)) | (refine no_implicit_lambda% (b_yes rfl rfl rfl rfl (fun _ h => h) (fun _ h => h) rfl rfl rfl ?_)) | (refine no_implicit_lambda% (b_not rfl rfl rfl rfl (fun _ h => h) (fun _ h => h) rfl rfl rfl (fun _ h => h) (fun _ h => h) ?_))) | ((with_reducible refine no_implicit_lambda% (is_effK ?_)); refine no_implicit_lambda% (k_eff (fun _ h => h) (fun _ h => h) (fun _ h => h) (by intro k h; repeat (first | exact h | refine ⟨rfl, ?_⟩ | refine ⟨trivial, ?_⟩)) ?_)) | ((with_reducible refine no_implicit_lambda% (zC ?_)); refine no_implicit_lambda% (a_qS rfl (qIx (fun _ h => h)) (by first | assumption | exact hpx (by assumption) | exact hpy (by assumption)) ?_)) | ((with_reducible refine no_implicit_lambda% (is_ev ?_)); first | (refine no_implicit_lambda% (v_qS rfl rfl rfl rfl (qIx (fun _ h => h)) (fun _ h => h) (by first | assumption | exact hpx (by assumption) | exact hpy (by assumption)) ?_)) | (refine no_implicit_lambda% (v_yesS rfl rfl rfl rfl rfl rfl (qIx (fun _ h => h)) (fun _ h => h) (by first | assumption | exact hpx (by assumption) | exact hpy (by assumption)) ?_))) | ((with_reducible refine no_implicit_lambda% (zC ?_)); refine no_implicit_lambda% (a_qS rfl (qStr (fun _ h => h)) rfl ?_)) | ((with_reducible refine no_implicit_lambda% (is_ev ?_)); first | (refine no_implicit_lambda% (v_qS rfl rfl rfl rfl (qStr (fun _ h => h)) (fun _ h => h) rfl ?_)) | (refine no_implicit_lambda% (v_yesS rfl rfl rfl rfl rfl rfl (qStr (fun _ h => h)) (fun _ h => h) rfl ?_))) | ((with_reducible refine no_implicit_lambda% (zC ?_)); refine no_implicit_lambda% (a_qS rfl (fun _ h => h) (by decide) ?_)) | ((with_reducible refine no_implicit_lambda% (is_ev ?_)); first | (refine no_implicit_lambda% (v_qS rfl rfl rfl rfl (fun _ h => h) (fun _ h => h) (by decide) ?_)) | (refine no_implicit_lambda% (v_yesS rfl rfl rfl rfl rfl rfl (fun _ h => h) (fun _ h => h) (by decide) ?_))) | ((with_reducible refine no_implicit_lambda% (is_effP ?_)); refine no_implicit_lambda% (k_effP2 (fun _ h => h) ?_))); (repeat' (first | ((with_reducible refine no_implicit_lambda% (zA ?_)); first | (refine no_implicit_lambda% (o_op rfl ?_)) | (refine no_implicit_lambda% (o_yes rfl rfl rfl ?_)) | (refine no_implicit_lambda% (o_no rfl rfl rfl (fun _ h => h) ?_)) | (refine no_implicit_lambda% (o_not rfl rfl rfl (fun _ h => h) ?_))) | ((with_reducible refine no_implicit_lambda% (is_opK ?_)); first | (refine no_implicit_lambda% (k_op' (fun _ h => h) ?_))) | ((with_reducible refine no_implicit_lambda% (zC ?_)); first | (refine no_implicit_lambda% (a_q1 rfl (fun _ h => h) ?_)) | (refine no_implicit_lambda% (a_box rfl (fun _ h => h) ?_)) | (refine no_implicit_lambda% (a_alloc rfl (fun _ h => h) ?_)) | (refine no_implicit_lambda% (a_storev rfl (fun _ h => h) ?_)) | (refine no_implicit_lambda% (a_store rfl (fun _ h => h) ?_)) | (refine no_implicit_lambda% (a_panic rfl rfl ?_))) | ((with_reducible refine no_implicit_lambda% (zC ?_)); first | (refine no_implicit_lambda% (a_append_tok rfl rfl rfl rfl rfl rfl rfl rfl rfl rfl rfl rfl rfl rfl (by first | rfl | (simp; done)) (fun _ h => h) (by (first | assumption | (intro row hr; simp only [List.mem_cons, List.not_mem_nil, or_false] at hr; rcases hr with rfl | rfl | rfl | rfl <;> rfl) | (intro row hr; simp at hr; done) | (intro row hr; simp only [List.mem_singleton] at hr; subst hr; rfl) | (intro row hr; obtain ⟨_, _, rfl⟩ := List.mem_map.1 hr; rfl))) (by (refine ⟨?_, ?_⟩ <;> (simp only [List.length_map, List.length_append, List.length_cons, List.length_nil]; omega))) ?_)) | (refine no_implicit_lambda% (a_append_full rfl rfl rfl rfl rfl rfl rfl rfl rfl rfl rfl rfl (by (first | assumption | (intro row hr; simp only [List.mem_cons, List.not_mem_nil, or_false] at hr; rcases hr with rfl | rfl | rfl | rfl <;> rfl) | (intro row hr; simp at hr; done) | (intro row hr; simp only [List.mem_singleton] at hr; subst hr; rfl) | (intro row hr; obtain ⟨_, _, rfl⟩ := List.mem_map.1 hr; rfl))) (by (first | assumption | (intro row hr; simp only [List.mem_cons, List.not_mem_nil, or_false] at hr; rcases hr with rfl | rfl | rfl | rfl <;> rfl) | (intro row hr; simp at hr; done) | (intro row hr; simp only [List.mem_singleton] at hr; subst hr; rfl) | (intro row hr; obtain ⟨_, _, rfl⟩ := List.mem_map.1 hr; rfl))) (by (refine ⟨?_, ?_⟩ <;> (simp only [List.length_map, List.length_append, List.length_cons, List.length_nil]; omega))) ?_))) | (first | (with_reducible refine no_implicit_lambda% (c_seq ?_)) | (with_reducible refine no_implicit_lambda% (c_region ?_)) | (with_reducible refine no_implicit_lambda% (c_ret ?_)) | (with_reducible refine no_implicit_lambda% (c_skip ?_)) | (with_reducible refine no_implicit_lambda% (c_block ?_)) | (with_reducible refine no_implicit_lambda% (c_exit ?_)) | (with_reducible refine no_implicit_lambda% (o_nil ?_)) | (with_reducible refine no_implicit_lambda% (k_seq ?_)) | (with_reducible refine no_implicit_lambda% (k_seq_ret ?_)) | (with_reducible refine no_implicit_lambda% (k_seq_exit ?_)) | (with_reducible refine no_implicit_lambda% (k_seq_pan ?_)) | (with_reducible refine no_implicit_lambda% (k_block ?_)) | (with_reducible refine no_implicit_lambda% (k_block_ret ?_)) | (with_reducible refine no_implicit_lambda% (k_block_pan ?_)) | ((with_reducible refine no_implicit_lambda% (is_blockx ?_)); first | (refine no_implicit_lambda% (k_block_here rfl ?_)) | (refine no_implicit_lambda% (k_block_on rfl ?_))) | (with_reducible refine no_implicit_lambda% (k_pan ?_)) | (with_reducible refine no_implicit_lambda% (k_opP ?_)) | (with_reducible refine no_implicit_lambda% (k_loop_ret ?_)) | (with_reducible refine no_implicit_lambda% (k_loop_exit ?_)) | (with_reducible refine no_implicit_lambda% (k_loop_pan ?_)) | (with_reducible refine no_implicit_lambda% (e_end ?_))) | (((with_reducible refine no_implicit_lambda% (zB ?_)); first | (refine no_implicit_lambda% (c_true rfl ?_)) | (refine no_implicit_lambda% (c_false rfl ?_)))) | ((with_reducible refine no_implicit_lambda% (c_draw ?_)); refine no_implicit_lambda% (d_start (by kernel_rfl) (fun _ h => h) (fun _ h => h) ?_)) | (first | (with_reducible refine no_implicit_lambda% (v_nil ?_)) | ((with_reducible refine no_implicit_lambda% (is_ev ?_)); first | (refine no_implicit_lambda% (v_skips rfl rfl (fun _ h => h) ?_)) | (refine no_implicit_lambda% (v_q rfl rfl rfl rfl (fun _ h => h) (fun _ h => h) ?_)) | (refine no_implicit_lambda% (v_alloc rfl rfl rfl (fun _ h => h) rfl ?_)) | (refine no_implicit_lambda% (v_no rfl rfl rfl rfl rfl rfl (fun _ h => h) ?_)) | (refine no_implicit_lambda% (v_yes rfl rfl rfl rfl rfl rfl (fun _ h => h) (fun _ h => h) ?_)) | (refine no_implicit_lambda% (v_not rfl rfl rfl rfl rfl rfl (fun _ h => h) ?_)))) | ((with_reducible refine no_implicit_lambda% (is_drB ?_)); first | (refine no_implicit_lambda% (b_end rfl rfl (fun _ h => h) (fun _ h => h) ?_)) | (refine no_implicit_lambda% (b_eff rfl rfl rfl rfl (fun _ h => h) (fun _ h => h) rfl ?_)) | (refine no_implicit_lambda% (b_no rfl rfl rfl rfl (fun _ h => h) (fun _ h => h) rfl rfl rfl (fun _ h => h) (fun _ h => h) ?_)) | (refine no_implicit_lambda% (b_yes rfl rfl rfl rfl (fun _ h => h) (fun _ h => h) rfl rfl rfl ?_)) | (refine no_implicit_lambda% (b_not rfl rfl rfl rfl (fun _ h => h) (fun _ h => h) rfl rfl rfl (fun _ h => h) (fun _ h => h) ?_))) | ((with_reducible refine no_implicit_lambda% (is_effK ?_)); refine no_implicit_lambda% (k_eff (fun _ h => h) (fun _ h => h) (fun _ h => h) (by intro k h; repeat (first | exact h | refine ⟨rfl, ?_⟩ | refine ⟨trivial, ?_⟩)) ?_)) | ((with_reducible refine no_implicit_lambda% (zC ?_)); refine no_implicit_lambda% (a_qS rfl (qIx (fun _ h => h)) (by first | assumption | exact hpx (by assumption) | exact hpy (by assumption)) ?_)) | ((with_reducible refine no_implicit_lambda% (is_ev ?_)); first | (refine no_implicit_lambda% (v_qS rfl rfl rfl rfl (qIx (fun _ h => h)) (fun _ h => h) (by first | assumption | exact hpx (by assumption) | exact hpy (by assumption)) ?_)) | (refine no_implicit_lambda% (v_yesS rfl rfl rfl rfl rfl rfl (qIx (fun _ h => h)) (fun _ h => h) (by first | assumption | exact hpx (by assumption) | exact hpy (by assumption)) ?_))) | ((with_reducible refine no_implicit_lambda% (zC ?_)); refine no_implicit_lambda% (a_qS rfl (qStr (fun _ h => h)) rfl ?_)) | ((with_reducible refine no_implicit_lambda% (is_ev ?_)); first | (refine no_implicit_lambda% (v_qS rfl rfl rfl rfl (qStr (fun _ h => h)) (fun _ h => h) rfl ?_)) | (refine no_implicit_lambda% (v_yesS rfl rfl rfl rfl rfl rfl (qStr (fun _ h => h)) (fun _ h => h) rfl ?_))) | ((with_reducible refine no_implicit_lambda% (zC ?_)); refine no_implicit_lambda% (a_qS rfl (fun _ h => h) (by decide) ?_)) | ((with_reducible refine no_implicit_lambda% (is_ev ?_)); first | (refine no_implicit_lambda% (v_qS rfl rfl rfl rfl (fun _ h => h) (fun _ h => h) (by decide) ?_)) | (refine no_implicit_lambda% (v_yesS rfl rfl rfl rfl rfl rfl (fun _ h => h) (fun _ h => h) (by decide) ?_))) | ((with_reducible refine no_implicit_lambda% (is_effP ?_)); refine no_implicit_lambda% (k_effP2 (fun _ h => h) ?_)) | fail)); exact Tag.out hTag)) : p := f ⟨h⟩
theorem cal {K KP : AV → Heap → Nat → Prop} {c : Call} {x : Operand} {f : FuncId} {cap args args0 : List AV} {k top : Nat} {H0 H1 rest : Heap} {R : AOut → Heap → Prop} (ids : List Nat) (hC : ACalls P f k top args0 H0 R)
  (hret : ∀ x H', R (.ret x) H' → K (x.ren (rn ids n)) (renH (rn ids n) H' ++ rest) n') (hpanic : ∀ x H', R (.panic x) H' → KP (x.ren (rn ids n)) (renH (rn ids n) H' ++ rest) n')
  (ho : o.op = .call c := by rfl) (hk : opKind o = .call := by rfl) (hc : c.callee = .value x := by rfl) (hx : ev s x = .fn f cap := by rfl) (ha : ∀ k : List AV → Prop, k args → forceA (c.args.toList.map (ev s) ++ cap) k := by exact fun _ h => h)
  (hids : (Nat.beq ids.length k && (ids.all (fun i => Nat.blt i n) && (Nat.ble k top && nodupB ids))) = true := by rfl) (hargs : LeL args (AV.renL (rn ids n) args0) := by exact .of_eq rfl)
  (ht : ∀ k : Heap → Heap → Prop, k H1 rest → takeH (keysH (renH (rn ids n) H0)) L k := by exact fun _ h => h) (heq : H1 = renH (rn ids n) H0 := by rfl) (hn : n + (top - k) = n' := by rfl) : aop P TT o s L n K KP :=
 a_call ho hk hc hx ha (by_c ids hC hids hargs ht heq hn hret hpanic)
theorem calw {K KP : AV → Heap → Nat → Prop} {c : Call} {x : Operand} {f : FuncId} {cap args args0 : List AV} {k top : Nat} {H0 H1 rest : Heap} {R : AOut → Heap → Prop} (ids : List Nat) (hC : ACalls P f k top args0 H0 R)
  (hret : ∀ x H', R (.ret x) H' → K (x.ren (rn ids n)) (renH (rn ids n) H' ++ rest) n') (hpanic : ∀ x H', R (.panic x) H' → KP (x.ren (rn ids n)) (renH (rn ids n) H' ++ rest) n')
  (ho : o.op = .call c := by rfl) (hk : opKind o = .call := by rfl) (hc : c.callee = .value x := by rfl) (hx : ev s x = .fn f cap := by rfl) (ha : ∀ k : List AV → Prop, k args → forceA (c.args.toList.map (ev s) ++ cap) k := by exact fun _ h => h)
  (hids : (Nat.beq ids.length k && (ids.all (fun i => Nat.blt i n) && (Nat.ble k top && nodupB ids))) = true := by rfl) (hargs : LeL args (AV.renL (rn ids n) args0) := by (repeat' (first | (exact .nil) | (with_reducible exact LeA.refl _) | (refine no_implicit_lambda% (.cons ?_ ?_)) | (refine no_implicit_lambda% (LeA.agg' ?_)) | (exact LeA.refl _) | (exact LeA.free _ _) | (refine no_implicit_lambda% (LeA.rows ?_ _); ((repeat' (first | (with_reducible exact LDR.nil) | (with_reducible exact LDL.nil) | (refine no_implicit_lambda% (LDR.cons ?_ ?_)) | (refine no_implicit_lambda% (LDL.cons ?_ ?_)) | (exact LeD.refl _) | (exact LeD.free _ _) | (exact LDR.nil) | (exact LDL.nil)))); done))))
  (ht : ∀ k : Heap → Heap → Prop, k H1 rest → takeH (keysH (renH (rn ids n) H0)) L k := by exact fun _ h => h) (heq : H1 = renH (rn ids n) H0 := by rfl) (hn : n + (top - k) = n' := by rfl) : aop P TT o s L n K KP :=
 a_call ho hk hc hx ha (by_c ids hC hids hargs ht heq hn hret hpanic)
theorem permT {L H H1 rest : Heap} (ht : ∀ k : Heap → Heap → Prop, k H1 rest → takeH (keysH H) L k := by exact fun _ h => h) (heq : H1 = H := by rfl) : L.Perm (H ++ rest) := by
 subst heq; exact takeH_to ht
theorem Conv.toT {s : List AV} {L H1 rest : Heap} {n : Nat} {τ : ASt} (hs : WkL s τ.slots) (hH : WkH H1 τ.L) (hn : n ≤ τ.next) (ht : ∀ k : Heap → Heap → Prop, k H1 rest → takeH (keysH τ.L) L k := by exact fun _ h => h) : Conv ⟨s, L, n⟩ τ :=
 (Conv.to (τ := ⟨s, H1, n⟩) rest (.refl s) (takeH_to ht) (Nat.le_refl _)).trans ((Conv.wk hs hH).trans (.to (τ := τ) [] (.refl _) (.of_eq (by simp)) hn))
theorem k_loopLT {low : Nat → Prop} {α : Type} {S : α → ASt} {C : α → Prop} {μ : α → Nat} {a : α} {s2 : List AV} {L2 H1 rest0 : Heap} (b : α) (N : Nat) (ids : List Nat) (hb : C b) (hm : μ b < μ a) (hlow : low N) (hs : ∀ k : List AV → Prop, k s2 → forceA (AV.renL (rn ids n) (S b).slots) k) (hL : ∀ k : Heap → Prop, k L2 → forceH (renH (rn ids n) (S b).L) k) (hw : WkL s s2) (hH : WkH H1 L2)
  (ht : ∀ k : Heap → Heap → Prop, k H1 rest0 → takeH (keysH L2) L k := by exact fun _ h => h) (hM : ids.length = (S b).next := by rfl) (hnd : ids.Nodup := by decide) (hlt : ∀ i ∈ ids, i < n := by decide) (hN : ∀ i, i < N → ids[i]? = some i := by decide) : loopK low S C μ a Kk .normal s L n := by
 have e1 : s2 = AV.renL (rn ids n) (S b).slots := by
  have := hs (fun x => s2 = x) rfl
  rwa [forceA_eq] at this
 have e2 : L2 = renH (rn ids n) (S b).L := by
  have := hL (fun x => L2 = x) rfl
  rwa [forceH_eq] at this
 subst e1; subst e2
 exact k_loopL b N ids hb hm hlow (Conv.toT (τ := ⟨_, _, n⟩) hw hH (Nat.le_refl _) ht) hM hnd hlt hN
theorem c_cutR {α : Type} {x y : Code} (S : α → ASt) (C : α → Prop) (hy : ∀ a, C a → acode P TT D y (S a).slots (S a).L (S a).next Kk)
  (hx : ∀ Kx : Kc, (∀ a s L n, C a → SeqTo D.low ⟨s, L, n⟩ (S a) → Kx .normal s L n) → (∀ x s L n, Kk (.panic x) s L n → Kx (.panic x) s L n) → (∀ s L n, Kk .ret s L n → Kx .ret s L n) → (∀ i s L n, Kk (.exit i) s L n → Kx (.exit i) s L n) → acode P TT D x s L n Kx) : acode P TT D x s L n (seqK P TT D y Kk) :=
 (hx (seqK P TT D y Kk) (fun a s L n h hc => ⟨S a, hc, hy a h⟩) (fun _ _ _ _ h => h) (fun _ _ _ h => h) (fun _ _ _ _ h => h))
theorem ret1 {v : AV} {H1 : Heap} {Q : AV → Heap → Prop} (h : Q v H1) : ∀ x H', (AOut.ret x = .ret v ∧ H' = H1) → Q x H' := by
 rintro x H' ⟨h1, h2⟩
 cases h1; subst h2; exact h
theorem zI {v : AV} {H1 : Heap} {Q : AV → Heap → Prop} : ∀ x H', (AOut.panic x = .ret v ∧ H' = H1) → Q x H' := fun x H' h => AOut.noConfusion h.1
theorem zJ {v : AV} {H1 : Heap} {Q : AV → Heap → Prop} : ∀ x H', (AOut.ret x = .panic v ∧ H' = H1) → Q x H' := fun x H' h => AOut.noConfusion h.1
theorem akc {d : Option Nat} {x : AV} (h : aops P TT all rest s' L'' n' K KP) (hx : ∀ k : AV → Prop, k av → fv x k := by exact fun _ h => h) (hs : ∀ k : List AV → Prop, k s' → putD s d av k := by exact fun _ h => h) (hL : ∀ k : Heap → Prop, k L'' → forceH L' k := by exact fun _ h => h) : opK P TT all rest s d K KP x L' n' :=
 k_opc hx hs hL h
theorem aec {pr : List Nat} {E S FL S' : Nat} {js : List Nat} {fuel e : Nat} {L1 L2 : Heap} {d : Option Nat} {x : AV} (h : evGoM P TT all pr S' L2 js E s' n (drBM P TT all pr K KP fuel S' FL L2)) (hx : ∀ k : AV → Prop, k av → fv x k := by exact fun _ h => h) (hs : ∀ k : List AV → Prop, k s' → putD s d av k := by exact fun _ h => h) (hL : ∀ k : Heap → Prop, k L2 → forceH L1 k := by exact fun _ h => h)
  (hr : ∀ k : List Nat → Prop, k js → forceN (List.range all.length) k := by exact fun _ h => h) (hc : ∀ k : Prop, k → rechkM TT all (pr.getD e 0) E s' L2 js k := by (intro k h; repeat (first | exact h | refine ⟨rfl, ?_⟩ | refine ⟨trivial, ?_⟩))) (hS' : ∀ k : Nat → Prop, k S' → forceNat (addM S e) k := by exact fun _ h => h) : effK P TT all pr K KP fuel E S FL e s d x L1 n :=
 k_effc hx hs hL hr hc h hS'
end
theorem zG {p q : Prop} (hq : q) (f : Tag q → False := by (intro hTag; have hc := Tag.out hTag; clear hTag; ((simp only [decide_eq_true_eq, decide_eq_false_iff_not, beq_iff_eq, beq_eq_false_iff_ne, bne_iff_ne, bne_eq_false_iff_eq, List.length_map, Int.not_lt, Int.not_le] at hc); omega))) : p := (f ⟨hq⟩).elim
theorem spl {p q1 q2 : Prop} {b : Bool} (h1 : b = true → q1) (h2 : b = false → q2) (f : (b = true → Tag q1) → (b = false → Tag q2) → p := by (intro hT hF; first | ((with_reducible refine no_implicit_lambda% (zA ?_)); refine no_implicit_lambda% (zD rfl rfl rfl (fun hc => ?_) (fun hc => ?_)); (focus (rw [hc]; exact Tag.out (hT hc))); (focus (rw [hc]; exact Tag.out (hF hc)))) | ((with_reducible refine no_implicit_lambda% (zB ?_)); refine no_implicit_lambda% (zE rfl (fun hc => ?_) (fun hc => ?_)); (focus (exact Tag.out (hT hc))); (focus (exact Tag.out (hF hc)))) | ((with_reducible refine no_implicit_lambda% (zC ?_)); refine no_implicit_lambda% (zF rfl rfl (fun hc => ?_) (fun hc => ?_)); (focus (rw [hc]; exact Tag.out (hT hc))); (focus (rw [hc]; exact Tag.out (hF hc)))))) : p := f (fun h => ⟨h1 h⟩) fun h => ⟨h2 h⟩
theorem splv {p q1 q2 : Prop} {b : Bool} (h1 : b = true → q1) (h2 : b = false → q2) (f : (b = true → Tag q1) → (b = false → Tag q2) → p := by (intro hT hF; first | ((with_reducible refine no_implicit_lambda% (zA ?_)); refine no_implicit_lambda% (zD rfl rfl rfl (fun hc => ?_) (fun hc => ?_)); (focus (rw [hc]; exact Tag.out (hT hc))); (focus (rw [hc]; exact Tag.out (hF hc)))) | ((with_reducible refine no_implicit_lambda% (zB ?_)); refine no_implicit_lambda% (zE rfl (fun hc => ?_) (fun hc => ?_)); (focus (exact Tag.out (hT hc))); (focus (exact Tag.out (hF hc)))) | ((with_reducible refine no_implicit_lambda% (zC ?_)); refine no_implicit_lambda% (zF rfl rfl (fun hc => ?_) (fun hc => ?_)); (focus (rw [hc]; exact Tag.out (hT hc))); (focus (rw [hc]; exact Tag.out (hF hc)))) | ((with_reducible refine no_implicit_lambda% (is_ev ?_)); refine no_implicit_lambda% (v_split rfl rfl rfl rfl (fun hc => ?_) (fun hc => ?_)); (focus (rw [hc]; exact Tag.out (hT hc))); (focus (rw [hc]; exact Tag.out (hF hc)))))) : p := f (fun h => ⟨h1 h⟩) fun h => ⟨h2 h⟩
theorem aqs {p q1 q2 : Prop} (h1 : q1) (h2 : q2) (f : Tag q1 → Tag q2 → p := by (intro hT hF; ((with_reducible refine no_implicit_lambda% (zC ?_)); first | (refine no_implicit_lambda% (a_qS rfl (fun _ h => h) ?_ ?_)) | (refine no_implicit_lambda% (a_qS rfl (qIx (fun _ h => h)) ?_ ?_)) | (refine no_implicit_lambda% (a_qS rfl (qAnd5 (fun _ h => h)) ?_ ?_)) | (refine no_implicit_lambda% (a_qS rfl (qStr (fun _ h => h)) ?_ ?_)) | (refine no_implicit_lambda% (a_qS rfl (qAnd4 (fun _ h => h)) ?_ ?_)) | (refine no_implicit_lambda% (a_qS rfl (qAnd2 (fun _ h => h)) ?_ ?_))); (focus (exact Tag.out hT)); (focus (exact Tag.out hF)))) : p := f ⟨h1⟩ ⟨h2⟩
theorem ans {p q : Prop} (h : q) (f : Tag q → p := by (intro hTag; ((with_reducible refine no_implicit_lambda% (ret1 ?_)); first | (refine no_implicit_lambda% (akc ?_)) | (refine no_implicit_lambda% (aec ?_))); exact Tag.out hTag)) : p := f ⟨h⟩
theorem wkl {p : Prop} (f : Tag True → p := by (intro _; (repeat' (first | (with_reducible exact .nil) | (refine no_implicit_lambda% (.cons ?_ ?_)) | (exact Wk.dead _) | (with_reducible exact Wk.refl _) | (exact WkL.nil))) <;> (first | (exact Wk.eq rfl) | (exact Wk.dead _) | (exact Wk.free _ _) | (exact Wk.lit _) | (refine no_implicit_lambda% (WkR.eq ?_); simp; done) | (refine no_implicit_lambda% (Wk.rows ?_ _); ((repeat' (first | (with_reducible exact LDR.nil) | (with_reducible exact LDL.nil) | (refine no_implicit_lambda% (LDR.cons ?_ ?_)) | (refine no_implicit_lambda% (LDL.cons ?_ ?_)) | (exact LeD.refl _) | (exact LeD.free _ _) | (exact LDR.nil) | (exact LDL.nil)))); done) | (exact Wk.rows (ldr_rep _) _) | (refine no_implicit_lambda% (Wk.eq ?_); rw [List.map_append]; rfl) | ((refine no_implicit_lambda% (Wk.int (Eq.trans (z64 ?_ ?_) ?_))) <;> omega) | (refine no_implicit_lambda% (Wk.int ?_); simp; done) | (refine no_implicit_lambda% (Wk.int ?_); simp; omega) | (refine no_implicit_lambda% (Wk.eq ?_); simp; done)))) : p := f ⟨trivial⟩
theorem wkh {p : Prop} (f : Tag True → p := by (intro _; (repeat' (first | (with_reducible exact WkH.nil) | (refine no_implicit_lambda% (WkH.cons ?_ ?_)) | (exact WkR.refl _) | (refine no_implicit_lambda% (WkR.box _ ?_)) | (refine no_implicit_lambda% (WkR.eq ?_); simp; done) | (exact WkH.nil))) <;> ((repeat' (first | (with_reducible exact .nil) | (refine no_implicit_lambda% (.cons ?_ ?_)) | (exact Wk.dead _) | (with_reducible exact Wk.refl _) | (exact WkL.nil))) <;> (first | (exact Wk.eq rfl) | (exact Wk.dead _) | (exact Wk.free _ _) | (exact Wk.lit _) | (refine no_implicit_lambda% (WkR.eq ?_); simp; done) | (refine no_implicit_lambda% (Wk.rows ?_ _); ((repeat' (first | (with_reducible exact LDR.nil) | (with_reducible exact LDL.nil) | (refine no_implicit_lambda% (LDR.cons ?_ ?_)) | (refine no_implicit_lambda% (LDL.cons ?_ ?_)) | (exact LeD.refl _) | (exact LeD.free _ _) | (exact LDR.nil) | (exact LDL.nil)))); done) | (exact Wk.rows (ldr_rep _) _) | (refine no_implicit_lambda% (Wk.eq ?_); rw [List.map_append]; rfl) | ((refine no_implicit_lambda% (Wk.int (Eq.trans (z64 ?_ ?_) ?_))) <;> omega) | (refine no_implicit_lambda% (Wk.int ?_); simp; done) | (refine no_implicit_lambda% (Wk.int ?_); simp; omega) | (refine no_implicit_lambda% (Wk.eq ?_); simp; done))))) : p := f ⟨trivial⟩
theorem sx1 {p q : Prop} (h : q) (f : Tag q → p := by (intro hTag; (first | ((with_reducible refine no_implicit_lambda% (zA ?_)); first | (refine no_implicit_lambda% (o_op rfl ?_)) | (refine no_implicit_lambda% (o_yes rfl rfl rfl ?_)) | (refine no_implicit_lambda% (o_no rfl rfl rfl (fun _ h => h) ?_)) | (refine no_implicit_lambda% (o_not rfl rfl rfl (fun _ h => h) ?_))) | ((with_reducible refine no_implicit_lambda% (is_opK ?_)); first | (refine no_implicit_lambda% (k_op' (fun _ h => h) ?_))) | ((with_reducible refine no_implicit_lambda% (zC ?_)); first | (refine no_implicit_lambda% (a_q1 rfl (fun _ h => h) ?_)) | (refine no_implicit_lambda% (a_box rfl (fun _ h => h) ?_)) | (refine no_implicit_lambda% (a_alloc rfl (fun _ h => h) ?_)) | (refine no_implicit_lambda% (a_storev rfl (fun _ h => h) ?_)) | (refine no_implicit_lambda% (a_store rfl (fun _ h => h) ?_)) | (refine no_implicit_lambda% (a_panic rfl rfl ?_))) | ((with_reducible refine no_implicit_lambda% (zC ?_)); refine no_implicit_lambda% (a_qS rfl (qIx (fun _ h => h)) (by first | assumption | exact hpx (by assumption) | exact hpy (by assumption)) ?_)) | (first | (with_reducible refine no_implicit_lambda% (c_seq ?_)) | (with_reducible refine no_implicit_lambda% (c_region ?_)) | (with_reducible refine no_implicit_lambda% (c_skip ?_)) | (with_reducible refine no_implicit_lambda% (c_block ?_)) | (with_reducible refine no_implicit_lambda% (c_exit ?_)) | (with_reducible refine no_implicit_lambda% (o_nil ?_)) | (with_reducible refine no_implicit_lambda% (k_seq_ret ?_)) | (with_reducible refine no_implicit_lambda% (k_seq_exit ?_)) | (with_reducible refine no_implicit_lambda% (k_seq_pan ?_)) | (with_reducible refine no_implicit_lambda% (k_block ?_)) | (with_reducible refine no_implicit_lambda% (k_block_ret ?_)) | (with_reducible refine no_implicit_lambda% (k_block_pan ?_)) | ((with_reducible refine no_implicit_lambda% (is_blockx ?_)); first | (refine no_implicit_lambda% (k_block_here rfl ?_)) | (refine no_implicit_lambda% (k_block_on rfl ?_))) | (with_reducible refine no_implicit_lambda% (k_pan ?_)) | (with_reducible refine no_implicit_lambda% (k_opP ?_)) | (with_reducible refine no_implicit_lambda% (k_loop_ret ?_)) | (with_reducible refine no_implicit_lambda% (k_loop_exit ?_)) | (with_reducible refine no_implicit_lambda% (k_loop_pan ?_))) | (((with_reducible refine no_implicit_lambda% (zB ?_)); first | (refine no_implicit_lambda% (c_true rfl ?_)) | (refine no_implicit_lambda% (c_false rfl ?_))))); exact Tag.out hTag)) : p := f ⟨h⟩
end Go.Am
namespace Go.Proofs.YtncffhgoopdfgaaGreat
open Go.Am
def wr (l : List UInt8) : Heap := [(0, .box [.list (l.map brow) (.tok 1)]), (1, .tok 1 (l.map brow).length)]
theorem byte_c (l : List UInt8) (b : UInt8) (h : l.length < 1073741824) : ACalls Tryz.prog 99 2 2 [.ptr 0 0, .v (.int .u8 b.toNat)] (wr l) (fun out H' => out = .ret (.tuple []) ∧ H' = wr (l ++ [b])) := by
 refine no_implicit_lambda% (acalls_of tok dok (f := 99) ⟨Tryz.func99, rfl, by kernel_rfl⟩ ?_); refine no_implicit_lambda% (c_start (fun _ h => h) ?_)
 refine no_implicit_lambda% (awd ?_)
 refine e_ret (H' := wr (l ++ [b])) (rest := []) rfl ⟨rfl, rfl⟩ (.of_eq (by simp [wr, brow])) (LE0 rfl)
def be (x : Nat) : Nat → List UInt8
 | 0 => []
 | n + 1 => UInt8.ofNat (x >>> (8 * n)) :: be x n
theorem cons_eq {α : Type} {a b : α} {l m : List α} (h : a = b) (k : l = m) : a :: l = b :: m := by rw [h, k]
theorem be_len (x : Nat) : ∀ n, (be x n).length = n
 | 0 => rfl
 | n + 1 => by simp [be, be_len x n]
theorem w64 {n : Int} (h1 : -9223372036854775808 ≤ n) (h2 : n ≤ 9223372036854775807) : IntKind.i64.wrap n = n := by rw [IntKind.wrap_i64]; omega
theorem z64 {n : Int} (h1 : -9223372036854775808 ≤ n) (h2 : n ≤ 9223372036854775807) : IntKind.i64.wrap n = n := by rw [IntKind.wrap_i64]; omega
theorem oct_at (x j : Nat) (hj : j < 8) : IntKind.u8.wrap ((x : Int).fdiv (2 ^ min (IntKind.i64.wrap (8 * (((j + 1 : Nat) : Int) - 1))).toNat IntKind.u64.bits)) = ((UInt8.ofNat (x >>> (8 * j))).toNat : Int) := by
 rw [w64 (by omega) (by omega)]
 have e : (8 * (((j + 1 : Nat) : Int) - 1)).toNat = 8 * j := by omega
 have e2 : min (8 * j) IntKind.u64.bits = 8 * j := Nat.min_eq_left (by show 8 * j ≤ 64; omega)
 rw [e, e2, IntKind.wrap_u8, UInt8.toNat_ofNat', Nat.shiftRight_eq_div_pow, Int.fdiv_eq_ediv_of_nonneg _ (Int.le_of_lt (Int.pow_pos (by decide)))]
 simp
def laySt (l : List UInt8) (x n : Nat) (b : List UInt8) (i : Nat) : ASt :=
 ⟨[.ptr 0 0, .v (.int .u64 x), .v (.int .i64 n), .dead, .dead, .dead, .v (.int .i64 ((i : Int) - 1)), .dead, .dead, .dead, .dead, .dead, .dead, .dead, .dead, .dead, .dead, .dead, .dead, .dead, .dead, .dead, .dead, .dead, .dead, .dead, .dead], wr (l ++ b), 2⟩
theorem lay_c (l : List UInt8) (x n : Nat) (hx : x < 18446744073709551616) (hn : n ≤ 8) (h : l.length < 1073741824) : ACalls Tryz.prog 167 2 2 [.ptr 0 0, .v (.int .u64 x), .v (.int .i64 n)] (wr l) (fun out H' => out = .ret (.tuple []) ∧ H' = wr (l ++ be x n)) := by
 refine no_implicit_lambda% (acalls_of tok dok (f := 167) ⟨Tryz.func167, rfl, by kernel_rfl⟩ ?_); refine no_implicit_lambda% (c_start (fun _ h => h) ?_)
 refine no_implicit_lambda% (awd ?_)
 refine c_loop2 (laySt l x n) (fun b i => i ≤ n ∧ b ++ be x i = be x n) (fun _ i => i) [] n ⟨Nat.le_refl _, rfl⟩ (.to [] ?_ (.of_eq (by simp [laySt])) (Nat.le_refl _)) ?_
 ·unfold laySt
  repeat' (first | (with_reducible exact .nil) | (refine no_implicit_lambda% (.cons ?_ ?_)) | (exact Wk.dead _) | (with_reducible exact Wk.refl _) | (exact WkL.nil))
  refine .int (w64 ?_ ?_) <;> omega
 rintro b i ⟨h1, h2⟩
 have hl := congrArg List.length h2
 rw [List.length_append, be_len, be_len] at hl
 refine no_implicit_lambda% (c_turn (fun _ h => h) (fun _ h => h) rfl ?_)
 refine no_implicit_lambda% (awd ?_)
 ((with_reducible refine no_implicit_lambda% (zB ?_)); refine no_implicit_lambda% (zE rfl (fun hc => ?_) (fun hc => ?_)))
 ·refine no_implicit_lambda% (awd ?_)
  (with_reducible refine no_implicit_lambda% (is_ev ?_)); first | (refine no_implicit_lambda% (v_qS rfl rfl rfl rfl (fun _ h => h) (fun _ h => h) ?_ ?_)) | (refine no_implicit_lambda% (v_qS rfl rfl rfl rfl (qIx (fun _ h => h)) (fun _ h => h) ?_ ?_)) | (refine no_implicit_lambda% (v_qS rfl rfl rfl rfl (qAnd5 (fun _ h => h)) (fun _ h => h) ?_ ?_)) | (refine no_implicit_lambda% (v_qS rfl rfl rfl rfl (qStr (fun _ h => h)) (fun _ h => h) ?_ ?_))
  ·rw [w64 (by omega) (by omega)]; simp at hc; omega
  refine no_implicit_lambda% (awd ?_)
  obtain ⟨j, rfl⟩ : ∃ j, i = j + 1 := ⟨i - 1, by simp at hc; omega⟩
  refine k_loop (b ++ [UInt8.ofNat (x >>> (8 * j))], j) ⟨by omega, by rw [← h2]; simp [be]⟩ (Nat.lt_succ_self j) (.to [] ?_ (.of_eq ?_) (Nat.le_refl _))
  ·unfold laySt
   repeat' (first | (with_reducible exact .nil) | (refine no_implicit_lambda% (.cons ?_ ?_)) | (exact Wk.dead _) | (with_reducible exact Wk.refl _) | (exact WkL.nil))
   exact .int (by rw [w64 (by omega) (by omega)]; simp)
  ·simp only [List.append_nil]
   refine cons_eq ?_ ?_
   ·rw [oct_at x j (by omega)]; simp [brow]
   ·simp [Nat.add_assoc]
 ·refine no_implicit_lambda% (awd ?_)
  simp at hc
  obtain rfl : i = 0 := by omega
  refine e_ret (H' := wr (l ++ be x n)) (rest := []) rfl ⟨rfl, rfl⟩ (.of_eq (by rw [← h2]; simp [wr, be])) (Nat.le_refl _)
theorem num_c (l : List UInt8) (x : Nat) (hx : x < 4294967296) (h : l.length < 1073741824) : ACalls Tryz.prog 103 2 2 [.ptr 0 0, .v (.int .u32 x)] (wr l) (fun out H' => out = .ret (.tuple []) ∧ H' = wr (l ++ be x 4)) := by
 refine no_implicit_lambda% (acalls_of tok dok (f := 103) ⟨Tryz.func103, rfl, by kernel_rfl⟩ ?_); refine no_implicit_lambda% (c_start (fun _ h => h) ?_)
 refine no_implicit_lambda% (awd ?_)
 rw [show IntKind.u64.wrap (x : Int) = x by rw [IntKind.wrap_u64]; omega]
 refine no_implicit_lambda% (cal [0, 1] (lay_c l x 4 (by omega) (by omega) h) ?_ ?_)
 ·refine no_implicit_lambda% (ret1 ?_); first | (refine no_implicit_lambda% (akc ?_)) | (refine no_implicit_lambda% (aec ?_))
  refine no_implicit_lambda% (awd ?_)
  refine e_ret (H' := wr (l ++ be x 4)) (rest := []) rfl ⟨rfl, rfl⟩ (.of_eq rfl) (LE0 rfl)
 ·first | (exact zI) | (exact zJ)
theorem long_c (l : List UInt8) (x : Nat) (hx : x < 18446744073709551616) (h : l.length < 1073741824) : ACalls Tryz.prog 146 2 2 [.ptr 0 0, .v (.int .u64 x)] (wr l) (fun out H' => out = .ret (.tuple []) ∧ H' = wr (l ++ be x 8)) := by
 refine no_implicit_lambda% (acalls_of tok dok (f := 146) ⟨Tryz.func146, rfl, by kernel_rfl⟩ ?_); refine no_implicit_lambda% (c_start (fun _ h => h) ?_)
 refine no_implicit_lambda% (awd ?_)
 refine no_implicit_lambda% (cal [0, 1] (lay_c l x 8 (by omega) (by omega) h) ?_ ?_)
 ·refine no_implicit_lambda% (ret1 ?_); first | (refine no_implicit_lambda% (akc ?_)) | (refine no_implicit_lambda% (aec ?_))
  refine no_implicit_lambda% (awd ?_)
  refine e_ret (H' := wr (l ++ be x 8)) (rest := []) rfl ⟨rfl, rfl⟩ (.of_eq rfl) (LE0 rfl)
 ·first | (exact zI) | (exact zJ)
theorem text_c (l s : List UInt8) (hs : s.length < 9223372036854775807) (h : l.length < 1000000000) : ACalls Tryz.prog 104 2 2 [.ptr 0 0, .list (s.map brow) .free] (wr l) (fun out H' => out = .ret (.v (.bool (decide (s.length ≤ 1048576)))) ∧ H' = wr (if s.length ≤ 1048576 then l ++ (be s.length 4 ++ s) else l)) := by
 refine no_implicit_lambda% (acalls_of tok dok (f := 104) ⟨Tryz.func104, rfl, by kernel_rfl⟩ ?_); refine no_implicit_lambda% (c_start (fun _ h => h) ?_)
 refine no_implicit_lambda% (awd ?_)
 ((with_reducible refine no_implicit_lambda% (zB ?_)); refine no_implicit_lambda% (zE rfl (fun hc => ?_) (fun hc => ?_)))
 ·refine no_implicit_lambda% (awd ?_)
  simp only [List.length_map, gt_iff_lt, decide_eq_true_eq] at hc
  have hn : ¬ s.length ≤ 1048576 := by omega
  refine e_ret (H' := wr l) (rest := []) rfl ⟨?_, ?_⟩ (.of_eq rfl) (LE0 rfl)
  ·simp [hn]; rfl
  ·simp [hn]
 ·refine no_implicit_lambda% (awd ?_)
  simp only [List.length_map, gt_iff_lt, decide_eq_false_iff_not] at hc
  have hn : s.length ≤ 1048576 := by omega
  rw [show IntKind.u32.wrap ((s.map brow).length : Int) = s.length by rw [IntKind.wrap_u32, List.length_map]; omega]
  refine no_implicit_lambda% (cal [0, 1] (num_c l s.length (by omega) (by omega)) ?_ ?_)
  ·refine no_implicit_lambda% (ret1 ?_); first | (refine no_implicit_lambda% (akc ?_)) | (refine no_implicit_lambda% (aec ?_))
   have hbl := be_len s.length 4
   refine no_implicit_lambda% (awd ?_)
   refine e_ret (H' := wr (l ++ (be s.length 4 ++ s))) (rest := []) rfl ⟨?_, ?_⟩ (.of_eq ?_) (LE0 rfl)
   ·simp [hn]; rfl
   ·simp [hn]
   ·simp [wr, rn, Nat.add_assoc]
  ·first | (exact zI) | (exact zJ)
theorem new_c : ACalls Tryz.prog 71 0 2 [] [] (fun out H' => out = .ret (.ptr 0 0) ∧ H' = wr []) := by
 refine no_implicit_lambda% (acalls_of tok dok (f := 71) ⟨Tryz.func71, rfl, by kernel_rfl⟩ ?_); refine no_implicit_lambda% (c_start (fun _ h => h) ?_)
 refine no_implicit_lambda% (awd ?_)
 refine e_ret_to (H' := wr []) (rest := []) ((Conv.tokBox (id := 0) (j := 0) (sz := 1) (rows := []) rfl rfl (by simp)).trans (.drop (n' := 2) (H := wr []) (rest := []) (.swap _ _ _) (by decide))) rfl ⟨rfl, rfl⟩ (.of_eq rfl) (LE0 rfl)
theorem clone_c (rows : List (List AV)) (hr : ∀ row ∈ rows, row.length = 1) (h : rows.length < 70368744177664) : ACalls Tryz.prog 148 0 1 [.list rows .free] [] (fun out H' => out = .ret (.list rows .free) ∧ H' = []) := by
 refine no_implicit_lambda% (acalls_of tok dok (f := 148) ⟨Tryz.func148, rfl, by kernel_rfl⟩ ?_); refine no_implicit_lambda% (c_start (fun _ h => h) ?_)
 refine no_implicit_lambda% (awd ?_)
 (with_reducible refine no_implicit_lambda% (zC ?_)); refine no_implicit_lambda% (a_nilq rfl rfl rfl (fun _ h => h) (fun _ h => h) (fun hl => ?_) ?_)
 ·refine no_implicit_lambda% (awd ?_)
  subst hl
  exact e_ret_to (H' := []) (.freeSlot 2 rfl) rfl ⟨rfl, rfl⟩ (.refl _) (LE0 rfl)
 ·refine no_implicit_lambda% (awd ?_)
  exact e_ret_to (H' := []) (.freeSlot 2 rfl) rfl ⟨rfl, rfl⟩ (.refl _) (LE0 rfl)
theorem brows (l : List UInt8) : ∀ row ∈ l.map brow, row.length = 1 := fun row h => by obtain ⟨_, _, rfl⟩ := List.mem_map.1 h; rfl
theorem done_c (l : List UInt8) (h : l.length < 1073741824) : ACalls Tryz.prog 73 2 3 [.ptr 0 0] (wr l) (fun out H' => out = .ret (.list (l.map brow) .free) ∧ H' = []) := by
 refine no_implicit_lambda% (acalls_of tok dok (f := 73) ⟨Tryz.func73, rfl, by kernel_rfl⟩ ?_); refine no_implicit_lambda% (c_start (fun _ h => h) ?_)
 refine no_implicit_lambda% (awd ?_)
 refine no_implicit_lambda% (calw [] (clone_c (l.map brow) (brows l) (by simp; omega)) ?_ ?_)
 ·refine no_implicit_lambda% (ret1 ?_); first | (refine no_implicit_lambda% (akc ?_)) | (refine no_implicit_lambda% (aec ?_))
  refine no_implicit_lambda% (awd ?_)
  refine e_ret (H' := []) rfl ⟨rfl, rfl⟩ (.refl _) (LE0 rfl)
 ·first | (exact zI) | (exact zJ)
def nanB (b : Nat) : Bool := FloatKind.f64.format.order b b != some .eq
def canonB (b : Nat) : Nat := if nanB b then 9221120237041090561 else b
theorem bits_x (b : Nat) : ACalls Tryz.prog 138 0 0 [.v (.float .f64 b)] [] (fun out H' => out = .ret (.v (.int .u64 b)) ∧ H' = []) :=
 ext_c (fn := Tryz.f138) (e := Extern.MathFloatBits.float64bits) (by kernel_rfl) (by kernel_rfl) rfl (by kernel_rfl) (by kernel_rfl) fun w => rfl
theorem from_x (n : Int) : ACalls Tryz.prog 137 0 0 [.v (.int .u64 n)] [] (fun out H' => out = .ret (.v (.float .f64 n.toNat)) ∧ H' = []) :=
 ext_c (fn := Tryz.f137) (e := Extern.MathFloatBits.float64frombits) (by kernel_rfl) (by kernel_rfl) rfl (by kernel_rfl) (by kernel_rfl) fun w => rfl
theorem isNaN_c (b : Nat) : ACalls Tryz.prog 210 0 0 [.v (.float .f64 b)] [] (fun out H' => out = .ret (.v (.bool (nanB b))) ∧ H' = []) := by
 refine no_implicit_lambda% (acalls_of tok dok (f := 210) ⟨Tryz.func210, rfl, by kernel_rfl⟩ ?_); refine no_implicit_lambda% (c_start (fun _ h => h) ?_)
 refine no_implicit_lambda% (awd ?_)
 exact e_ret (H' := []) rfl ⟨rfl, rfl⟩ (.refl _) (LE0 rfl)
theorem canon_c (b : Nat) : ACalls Tryz.prog 193 0 0 [.v (.float .f64 b)] [] (fun out H' => out = .ret (.v (.float .f64 (canonB b))) ∧ H' = []) := by
 refine no_implicit_lambda% (acalls_of tok dok (f := 193) ⟨Tryz.func193, rfl, by kernel_rfl⟩ ?_); refine no_implicit_lambda% (c_start (fun _ h => h) ?_)
 refine no_implicit_lambda% (awd ?_)
 refine no_implicit_lambda% (cal [] (isNaN_c b) ?_ ?_)
 ·refine no_implicit_lambda% (ret1 ?_); first | (refine no_implicit_lambda% (akc ?_)) | (refine no_implicit_lambda% (aec ?_))
  refine no_implicit_lambda% (awd ?_)
  ((with_reducible refine no_implicit_lambda% (zB ?_)); refine no_implicit_lambda% (zE rfl (fun hc => ?_) (fun hc => ?_)))
  ·refine no_implicit_lambda% (awd ?_)
   refine no_implicit_lambda% (cal [] (from_x 9221120237041090561) ?_ ?_)
   ·refine no_implicit_lambda% (ret1 ?_); first | (refine no_implicit_lambda% (akc ?_)) | (refine no_implicit_lambda% (aec ?_))
    refine no_implicit_lambda% (awd ?_)
    exact e_ret (H' := []) rfl ⟨by simp [canonB, hc]; rfl, rfl⟩ (.refl _) (LE0 rfl)
   ·first | (exact zI) | (exact zJ)
  ·refine no_implicit_lambda% (awd ?_)
   exact e_ret (H' := []) rfl ⟨by simp [canonB, hc]; rfl, rfl⟩ (.refl _) (LE0 rfl)
 ·first | (exact zI) | (exact zJ)
theorem bits_c (b : Nat) : ACalls Tryz.prog 201 0 0 [.v (.float .f64 b)] [] (fun out H' => out = .ret (.v (.int .u64 (canonB b))) ∧ H' = []) := by
 refine no_implicit_lambda% (acalls_of tok dok (f := 201) ⟨Tryz.func201, rfl, by kernel_rfl⟩ ?_); refine no_implicit_lambda% (c_start (fun _ h => h) ?_)
 refine no_implicit_lambda% (awd ?_)
 refine no_implicit_lambda% (cal [] (canon_c b) ?_ ?_)
 ·refine no_implicit_lambda% (ret1 ?_); first | (refine no_implicit_lambda% (akc ?_)) | (refine no_implicit_lambda% (aec ?_))
  refine no_implicit_lambda% (awd ?_)
  refine no_implicit_lambda% (cal [] (bits_x (canonB b)) ?_ ?_)
  ·refine no_implicit_lambda% (ret1 ?_); first | (refine no_implicit_lambda% (akc ?_)) | (refine no_implicit_lambda% (aec ?_))
   refine no_implicit_lambda% (awd ?_)
   exact e_ret (H' := []) rfl ⟨rfl, rfl⟩ (.refl _) (LE0 rfl)
  ·first | (exact zI) | (exact zJ)
 ·first | (exact zI) | (exact zJ)
theorem from_c (b : Nat) : ACalls Tryz.prog 202 0 0 [.v (.int .u64 b)] [] (fun out H' => out = .ret (.v (.float .f64 (canonB b))) ∧ H' = []) := by
 refine no_implicit_lambda% (acalls_of tok dok (f := 202) ⟨Tryz.func202, rfl, by kernel_rfl⟩ ?_); refine no_implicit_lambda% (c_start (fun _ h => h) ?_)
 refine no_implicit_lambda% (awd ?_)
 refine no_implicit_lambda% (cal [] (from_x b) ?_ ?_)
 ·refine no_implicit_lambda% (ret1 ?_); first | (refine no_implicit_lambda% (akc ?_)) | (refine no_implicit_lambda% (aec ?_))
  refine no_implicit_lambda% (awd ?_)
  refine no_implicit_lambda% (cal [] (canon_c b) ?_ ?_)
  ·refine no_implicit_lambda% (ret1 ?_); first | (refine no_implicit_lambda% (akc ?_)) | (refine no_implicit_lambda% (aec ?_))
   refine no_implicit_lambda% (awd ?_)
   exact e_ret (H' := []) rfl ⟨rfl, rfl⟩ (.refl _) (LE0 rfl)
  ·first | (exact zI) | (exact zJ)
 ·first | (exact zI) | (exact zJ)
theorem float_c (l : List UInt8) (b : Nat) (hb : b < 18446744073709551616) (h : l.length < 1073741824) : ACalls Tryz.prog 182 2 2 [.ptr 0 0, .v (.float .f64 b)] (wr l) (fun out H' => out = .ret (.tuple []) ∧ H' = wr (l ++ be (canonB b) 8)) := by
 refine no_implicit_lambda% (acalls_of tok dok (f := 182) ⟨Tryz.func182, rfl, by kernel_rfl⟩ ?_); refine no_implicit_lambda% (c_start (fun _ h => h) ?_)
 refine no_implicit_lambda% (awd ?_)
 refine no_implicit_lambda% (cal [] (bits_c b) ?_ ?_)
 ·refine no_implicit_lambda% (ret1 ?_); first | (refine no_implicit_lambda% (akc ?_)) | (refine no_implicit_lambda% (aec ?_))
  refine no_implicit_lambda% (awd ?_)
  refine no_implicit_lambda% (cal [0, 1] (long_c l (canonB b) (by unfold canonB; split <;> omega) h) ?_ ?_)
  ·refine no_implicit_lambda% (ret1 ?_); first | (refine no_implicit_lambda% (akc ?_)) | (refine no_implicit_lambda% (aec ?_))
   refine no_implicit_lambda% (awd ?_)
   exact e_ret (H' := wr (l ++ be (canonB b) 8)) (rest := []) rfl ⟨rfl, rfl⟩ (.of_eq rfl) (LE0 rfl)
  ·first | (exact zI) | (exact zJ)
 ·first | (exact zI) | (exact zJ)
end Go.Proofs.YtncffhgoopdfgaaGreat
namespace Go.Proofs.YtncffhgoopdfgaaGreat
open Go.Am
set_option maxRecDepth 100000
def wthn (n lo hi : Int) : Int := if lo ≤ n ∧ n ≤ hi then n else lo + (if n.tmod (hi - lo + 1) < 0 then n.tmod (hi - lo + 1) + (hi - lo + 1) else n.tmod (hi - lo + 1))
theorem wthn_bd (n lo hi : Int) (h : lo ≤ hi) : lo ≤ wthn n lo hi ∧ wthn n lo hi ≤ hi := by
 unfold wthn
 split
 ·omega
 ·have h1 := Int.tmod_lt_of_pos n (b := hi - lo + 1) (by omega)
  have h2 := Int.lt_tmod_of_pos n (b := hi - lo + 1) (by omega)
  split <;> omega
theorem wthn_c (n lo hi : Int) (hn1 : -9223372036854775808 ≤ n) (hn2 : n ≤ 9223372036854775807) (h0 : -4611686018427387904 ≤ lo) (h : lo ≤ hi) (h2 : hi ≤ 2147483648) (h3 : hi - lo ≤ 2147483648) : ACalls Tryz.prog 16 0 0 [.v (.int .i64 n), .v (.int .i64 lo), .v (.int .i64 hi)] [] (fun out H' => out = .ret (.v (.int .i64 (wthn n lo hi))) ∧ H' = []) := by
 have h4 := Int.tmod_lt_of_pos n (b := hi - lo + 1) (by omega)
 have h5 := Int.lt_tmod_of_pos n (b := hi - lo + 1) (by omega)
 refine no_implicit_lambda% (acalls_of tok dok (f := 16) ⟨Tryz.func16, rfl, by kernel_rfl⟩ ?_); refine no_implicit_lambda% (c_start (fun _ h => h) ?_)
 repeat' (first | (refine no_implicit_lambda% (zH ?_)) | (((with_reducible refine no_implicit_lambda% (zA ?_)); refine no_implicit_lambda% (zD rfl rfl rfl (fun hc => ?_) (fun hc => ?_)) <;> rw [hc])) | (((with_reducible refine no_implicit_lambda% (zB ?_)); refine no_implicit_lambda% (zE rfl (fun hc => ?_) (fun hc => ?_)))) | (((with_reducible refine no_implicit_lambda% (zC ?_)); refine no_implicit_lambda% (zF rfl rfl (fun hc => ?_) (fun hc => ?_)) <;> rw [hc])) | fail)
 ·exact e_ret (H' := []) rfl ⟨by simp at *; rw [wthn, if_pos (by omega)]; rfl, rfl⟩ (.refl _) (LE0 rfl)
 all_goals
  rw [z64 (n := hi - lo) (by omega) (by omega), z64 (n := hi - lo + 1) (by omega) (by omega)]
  refine no_implicit_lambda% (aqs ?_ ?_)
  ·omega
  generalize ht : n.tmod (hi - lo + 1) = t at *
  repeat' (first | (refine no_implicit_lambda% (zH ?_)) | (((with_reducible refine no_implicit_lambda% (zA ?_)); refine no_implicit_lambda% (zD rfl rfl rfl (fun hc => ?_) (fun hc => ?_)) <;> rw [hc])) | (((with_reducible refine no_implicit_lambda% (zB ?_)); refine no_implicit_lambda% (zE rfl (fun hc => ?_) (fun hc => ?_)))) | (((with_reducible refine no_implicit_lambda% (zC ?_)); refine no_implicit_lambda% (zF rfl rfl (fun hc => ?_) (fun hc => ?_)) <;> rw [hc])) | fail)
 all_goals
  refine e_ret (H' := []) rfl ⟨congrArg (fun z => AOut.ret (.v (.int .i64 z))) ?_, rfl⟩ (.refl _) (LE0 rfl)
  simp only [decide_eq_true_eq, decide_eq_false_iff_not] at *
  unfold wthn
  rw [ht, if_neg (by omega)]
  simp only [IntKind.wrap_i64]
  split <;> omega
end Go.Proofs.YtncffhgoopdfgaaGreat
namespace Go.Proofs.YtncffhgoopdfgaaGreat
open Go.Am
def cmpZ (a b : Int) : Int := if a < b then -1 else if b < a then 1 else 0
def keyI (b : Nat) : Int := if (IntKind.u64.wrap ((BitVec.ofInt IntKind.u64.bits (canonB b : Int) &&& BitVec.ofInt IntKind.u64.bits 9223372036854775808).toNat : Int) != 0) = true then IntKind.u64.wrap ((BitVec.ofInt IntKind.u64.bits (if IntKind.u64.signed then -1 else IntKind.u64.max) ^^^ BitVec.ofInt IntKind.u64.bits (canonB b : Int)).toNat : Int) else IntKind.u64.wrap ((BitVec.ofInt IntKind.u64.bits (canonB b : Int) ||| BitVec.ofInt IntKind.u64.bits 9223372036854775808).toNat : Int)
abbrev anyF (out : AOut) (H' : Heap) : Prop := ∃ b, b < 18446744073709551616 ∧ out = .ret (.v (.float .f64 b)) ∧ H' = []
theorem csign_c : ACalls Tryz.prog 65 0 0 [.v (.float .f64 0), .v (.float .f64 13830554455654793216)] [] (fun out H' => out = .ret (.v (.float .f64 9223372036854775808)) ∧ H' = []) := by
 refine no_implicit_lambda% (acalls_of tok dok (f := 65) ⟨Tryz.func65, rfl, by kernel_rfl⟩ ?_); refine no_implicit_lambda% (c_start (fun _ h => h) ?_)
 refine no_implicit_lambda% (awd ?_)
 refine no_implicit_lambda% (cal [] (bits_x 0) ?_ ?_)
 ·refine no_implicit_lambda% (ret1 ?_); first | (refine no_implicit_lambda% (akc ?_)) | (refine no_implicit_lambda% (aec ?_))
  refine no_implicit_lambda% (awd ?_)
  refine no_implicit_lambda% (cal [] (bits_x 13830554455654793216) ?_ ?_)
  ·refine no_implicit_lambda% (ret1 ?_); first | (refine no_implicit_lambda% (akc ?_)) | (refine no_implicit_lambda% (aec ?_))
   refine no_implicit_lambda% (awd ?_)
   refine no_implicit_lambda% (cal [] (from_x 9223372036854775808) ?_ ?_)
   ·refine no_implicit_lambda% (ret1 ?_); first | (refine no_implicit_lambda% (akc ?_)) | (refine no_implicit_lambda% (aec ?_))
    refine no_implicit_lambda% (awd ?_)
    exact e_ret (H' := []) rfl ⟨rfl, rfl⟩ (.refl _) (LE0 rfl)
   ·first | (exact zI) | (exact zJ)
  ·first | (exact zI) | (exact zJ)
 ·first | (exact zI) | (exact zJ)
theorem inf_c (n : Int) (h : n = 1 ∨ n = -1) : ACalls Tryz.prog 140 0 0 [.v (.int .i64 n)] [] anyF := by
 refine no_implicit_lambda% (acalls_of tok dok (f := 140) ⟨Tryz.func140, rfl, by kernel_rfl⟩ ?_); refine no_implicit_lambda% (c_start (fun _ h => h) ?_)
 repeat' (first | (refine no_implicit_lambda% (zH ?_)) | (((with_reducible refine no_implicit_lambda% (zA ?_)); refine no_implicit_lambda% (zD rfl rfl rfl (fun hc => ?_) (fun hc => ?_)) <;> rw [hc])) | (((with_reducible refine no_implicit_lambda% (zB ?_)); refine no_implicit_lambda% (zE rfl (fun hc => ?_) (fun hc => ?_)))) | (((with_reducible refine no_implicit_lambda% (zC ?_)); refine no_implicit_lambda% (zF rfl rfl (fun hc => ?_) (fun hc => ?_)) <;> rw [hc])) | fail)
 ·refine no_implicit_lambda% (cal [] (from_x 9218868437227405312) ?_ ?_)
  ·refine no_implicit_lambda% (ret1 ?_); first | (refine no_implicit_lambda% (akc ?_)) | (refine no_implicit_lambda% (aec ?_))
   refine no_implicit_lambda% (awd ?_)
   exact e_ret (H' := []) rfl ⟨_, by decide, rfl, rfl⟩ (.refl _) (LE0 rfl)
  ·first | (exact zI) | (exact zJ)
 ·refine no_implicit_lambda% (cal [] (from_x 18442240474082181120) ?_ ?_)
  ·refine no_implicit_lambda% (ret1 ?_); first | (refine no_implicit_lambda% (akc ?_)) | (refine no_implicit_lambda% (aec ?_))
   refine no_implicit_lambda% (awd ?_)
   exact e_ret (H' := []) rfl ⟨_, by decide, rfl, rfl⟩ (.refl _) (LE0 rfl)
  ·first | (exact zI) | (exact zJ)
theorem nanf_c : ACalls Tryz.prog 141 0 0 [] [] anyF := by
 refine no_implicit_lambda% (acalls_of tok dok (f := 141) ⟨Tryz.func141, rfl, by kernel_rfl⟩ ?_); refine no_implicit_lambda% (c_start (fun _ h => h) ?_)
 refine no_implicit_lambda% (awd ?_)
 refine no_implicit_lambda% (cal [] (from_x 9221120237041090561) ?_ ?_)
 ·refine no_implicit_lambda% (ret1 ?_); first | (refine no_implicit_lambda% (akc ?_)) | (refine no_implicit_lambda% (aec ?_))
  refine no_implicit_lambda% (awd ?_)
  exact e_ret (H' := []) rfl ⟨_, by decide, rfl, rfl⟩ (.refl _) (LE0 rfl)
 ·first | (exact zI) | (exact zJ)
theorem near_lt (n : Int) (h1 : -9 ≤ n) (h2 : n ≤ 10) : FloatKind.f64.nearest n < 18446744073709551616 := by
 obtain ⟨k, rfl, hk⟩ : ∃ k : Fin 20, n = (k.val : Int) - 9 ∧ True := ⟨⟨(n + 9).toNat, by omega⟩, by simp; omega, trivial⟩
 have h : ∀ k : Fin 20, FloatKind.f64.nearest ((k.val : Int) - 9) < 18446744073709551616 := by decide +kernel
 exact h k
theorem flt_c (n : Int) (x : Nat) (hn1 : -9223372036854775808 ≤ n) (hn2 : n ≤ 9223372036854775807) (hx : x < 18446744073709551616) : ACalls Tryz.prog 67 0 0 [.v (.int .i64 n), .v (.float .f64 x)] [] anyF := by
 have hb := wthn_bd n 0 1048576 (by decide)
 have hw := wthn_c n 0 1048576 hn1 hn2 (by decide) (by decide) (by decide) (by decide)
 generalize wthn n 0 1048576 = q at *
 refine no_implicit_lambda% (acalls_of tok dok (f := 67) ⟨Tryz.func67, rfl, by kernel_rfl⟩ ?_); refine no_implicit_lambda% (c_start (fun _ h => h) ?_)
 refine no_implicit_lambda% (awd ?_)
 refine no_implicit_lambda% (cal [] (hw) ?_ ?_)
 ·refine no_implicit_lambda% (ret1 ?_); first | (refine no_implicit_lambda% (akc ?_)) | (refine no_implicit_lambda% (aec ?_))
  repeat' (first | (refine no_implicit_lambda% (zH ?_)) | (((with_reducible refine no_implicit_lambda% (zA ?_)); refine no_implicit_lambda% (zD rfl rfl rfl (fun hc => ?_) (fun hc => ?_)) <;> rw [hc])) | (((with_reducible refine no_implicit_lambda% (zB ?_)); refine no_implicit_lambda% (zE rfl (fun hc => ?_) (fun hc => ?_)))) | (((with_reducible refine no_implicit_lambda% (zC ?_)); refine no_implicit_lambda% (zF rfl rfl (fun hc => ?_) (fun hc => ?_)) <;> rw [hc])) | fail)
  ·exact e_ret (H' := []) rfl ⟨0, by decide, rfl, rfl⟩ (.refl _) (LE0 rfl)
  ·refine no_implicit_lambda% (cal [] (csign_c) ?_ ?_)
   ·refine no_implicit_lambda% (ret1 ?_); first | (refine no_implicit_lambda% (akc ?_)) | (refine no_implicit_lambda% (aec ?_))
    refine no_implicit_lambda% (awd ?_)
    exact e_ret (H' := []) rfl ⟨_, by decide, rfl, rfl⟩ (.refl _) (LE0 rfl)
   ·first | (exact zI) | (exact zJ)
  ·refine no_implicit_lambda% (cal [] (inf_c 1 (.inl rfl)) ?_ ?_)
   ·intro x H' h; obtain ⟨fb, hfb, h1, rfl⟩ := h; cases h1; first | (refine no_implicit_lambda% (akc ?_)) | (refine no_implicit_lambda% (aec ?_))
    refine no_implicit_lambda% (awd ?_)
    exact e_ret (H' := []) rfl ⟨_, hfb, rfl, rfl⟩ (.refl _) (LE0 rfl)
   ·intro x H' h; obtain ⟨_, _, h1, _⟩ := h; cases h1
  ·refine no_implicit_lambda% (cal [] (inf_c (-1) (.inr rfl)) ?_ ?_)
   ·intro x H' h; obtain ⟨fb, hfb, h1, rfl⟩ := h; cases h1; first | (refine no_implicit_lambda% (akc ?_)) | (refine no_implicit_lambda% (aec ?_))
    refine no_implicit_lambda% (awd ?_)
    exact e_ret (H' := []) rfl ⟨_, hfb, rfl, rfl⟩ (.refl _) (LE0 rfl)
   ·intro x H' h; obtain ⟨_, _, h1, _⟩ := h; cases h1
  ·refine no_implicit_lambda% (cal [] (nanf_c) ?_ ?_)
   ·intro x H' h; obtain ⟨fb, hfb, h1, rfl⟩ := h; cases h1; first | (refine no_implicit_lambda% (akc ?_)) | (refine no_implicit_lambda% (aec ?_))
    refine no_implicit_lambda% (awd ?_)
    exact e_ret (H' := []) rfl ⟨_, hfb, rfl, rfl⟩ (.refl _) (LE0 rfl)
   ·intro x H' h; obtain ⟨_, _, h1, _⟩ := h; cases h1
  ·refine no_implicit_lambda% (cal [] (from_x 18444492273895866659) ?_ ?_)
   ·refine no_implicit_lambda% (ret1 ?_); first | (refine no_implicit_lambda% (akc ?_)) | (refine no_implicit_lambda% (aec ?_))
    refine no_implicit_lambda% (awd ?_)
    exact e_ret (H' := []) rfl ⟨_, by decide, rfl, rfl⟩ (.refl _) (LE0 rfl)
   ·first | (exact zI) | (exact zJ)
  ·refine no_implicit_lambda% (cal [] (hw) ?_ ?_)
   ·refine no_implicit_lambda% (ret1 ?_); first | (refine no_implicit_lambda% (akc ?_)) | (refine no_implicit_lambda% (aec ?_))
    refine no_implicit_lambda% (awd ?_)
    have h1 : 0 ≤ q.tmod 20 := by rw [Int.tmod_eq_emod_of_nonneg hb.1]; omega
    have h2 : q.tmod 20 < 20 := by rw [Int.tmod_eq_emod_of_nonneg hb.1]; omega
    rw [z64 (n := q.tmod 20 - 9) (by omega) (by omega)]
    exact e_ret (H' := []) rfl ⟨_, near_lt _ (by omega) (by omega), rfl, rfl⟩ (.refl _) (LE0 rfl)
   ·first | (exact zI) | (exact zJ)
  ·exact e_ret (H' := []) rfl ⟨x, hx, rfl, rfl⟩ (.refl _) (LE0 rfl)
 ·first | (exact zI) | (exact zJ)
end Go.Proofs.YtncffhgoopdfgaaGreat
