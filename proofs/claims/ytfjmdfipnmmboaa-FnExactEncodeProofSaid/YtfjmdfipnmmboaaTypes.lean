/- The table of types of this program: what the abstract memory logic knows of each. Written by a program of ours. -/
import Derived.Test.YtfjmdfipnmmboaaProg
import Derived.Test.YtfjmdfipnmmboaaAm1
namespace Go.Am.Ytfjmdfipnmmboaa
open Go Go.Am
set_option maxRecDepth 100000

def ti1 : TI := ⟨.func #[] #[] false, 1, 8, [.nilfn], []⟩
theorem tok1 : TOK Go.Proofs.Try.prog 1 ti1 := ⟨Go.Proofs.Try.underlying1, ⟨_, _, rfl, rfl, rfl, rfl, rfl⟩, rfl, rfl, .inl rfl, by decide⟩
def ti2 : TI := ⟨.int .i64, 1, 8, [.int .i64 0], []⟩
theorem tok2 : TOK Go.Proofs.Try.prog 2 ti2 := ⟨Go.Proofs.Try.underlying2, ⟨_, _, rfl, rfl, rfl, rfl, rfl⟩, rfl, rfl, .inl rfl, by decide⟩
def ti3 : TI := ⟨.int .i64, 1, 8, [.int .i64 0], []⟩
theorem tok3 : TOK Go.Proofs.Try.prog 3 ti3 := ⟨Go.Proofs.Try.underlying3, ⟨_, _, rfl, rfl, rfl, rfl, rfl⟩, rfl, rfl, .inl rfl, by decide⟩
def ti4 : TI := ⟨.bool, 1, 1, [.bool false], []⟩
theorem tok4 : TOK Go.Proofs.Try.prog 4 ti4 := ⟨Go.Proofs.Try.underlying4, ⟨_, _, rfl, rfl, rfl, rfl, rfl⟩, rfl, rfl, .inl rfl, by decide⟩
def ti5 : TI := ⟨.int .u8, 1, 1, [.int .u8 0], []⟩
theorem tok5 : TOK Go.Proofs.Try.prog 5 ti5 := ⟨Go.Proofs.Try.underlying5, ⟨_, _, rfl, rfl, rfl, rfl, rfl⟩, rfl, rfl, .inl rfl, by decide⟩
def ti6 : TI := ⟨.int .u8, 1, 1, [.int .u8 0], []⟩
theorem tok6 : TOK Go.Proofs.Try.prog 6 ti6 := ⟨Go.Proofs.Try.underlying6, ⟨_, _, rfl, rfl, rfl, rfl, rfl⟩, rfl, rfl, .inl rfl, by decide⟩
def ti7 : TI := ⟨.struct #[{ name := "x", type := 2, offset := 0, embedded := false, tag := "", pkgPath := "runtime", byteOffset := 0 }, { name := "y", type := 3, offset := 1, embedded := false, tag := "", pkgPath := "runtime", byteOffset := 8 }, { name := "signed", type := 4, offset := 2, embedded := false, tag := "", pkgPath := "runtime", byteOffset := 16 }, { name := "code", type := 6, offset := 3, embedded := false, tag := "", pkgPath := "runtime", byteOffset := 17 }], 4, 24, [.int .i64 0, .int .i64 0, .bool false, .int .u8 0], [(0, 1), (1, 1), (2, 1), (3, 1)]⟩
theorem tok7 : TOK Go.Proofs.Try.prog 7 ti7 := ⟨Go.Proofs.Try.underlying7, ⟨_, _, rfl, rfl, rfl, rfl, rfl⟩, rfl, rfl, .inr ⟨_, rfl, ⟨⟨_, rfl, rfl, rfl, by decide⟩, ⟨_, rfl, rfl, rfl, by decide⟩, ⟨_, rfl, rfl, rfl, by decide⟩, ⟨_, rfl, rfl, rfl, by decide⟩, trivial⟩, rfl⟩, by decide⟩
def ti8 : TI := ⟨.struct #[{ name := "x", type := 2, offset := 0, embedded := false, tag := "", pkgPath := "runtime", byteOffset := 0 }, { name := "y", type := 3, offset := 1, embedded := false, tag := "", pkgPath := "runtime", byteOffset := 8 }, { name := "signed", type := 4, offset := 2, embedded := false, tag := "", pkgPath := "runtime", byteOffset := 16 }, { name := "code", type := 6, offset := 3, embedded := false, tag := "", pkgPath := "runtime", byteOffset := 17 }], 4, 24, [.int .i64 0, .int .i64 0, .bool false, .int .u8 0], [(0, 1), (1, 1), (2, 1), (3, 1)]⟩
theorem tok8 : TOK Go.Proofs.Try.prog 8 ti8 := ⟨Go.Proofs.Try.underlying8, ⟨_, _, rfl, rfl, rfl, rfl, rfl⟩, rfl, rfl, .inr ⟨_, rfl, ⟨⟨_, rfl, rfl, rfl, by decide⟩, ⟨_, rfl, rfl, rfl, by decide⟩, ⟨_, rfl, rfl, rfl, by decide⟩, ⟨_, rfl, rfl, rfl, by decide⟩, trivial⟩, rfl⟩, by decide⟩
def ti9 : TI := ⟨.string, 1, 16, [.str ⟨#[]⟩], []⟩
theorem tok9 : TOK Go.Proofs.Try.prog 9 ti9 := ⟨Go.Proofs.Try.underlying9, ⟨_, _, rfl, rfl, rfl, rfl, rfl⟩, rfl, rfl, .inl rfl, by decide⟩
def ti10 : TI := ⟨.string, 1, 16, [.str ⟨#[]⟩], []⟩
theorem tok10 : TOK Go.Proofs.Try.prog 10 ti10 := ⟨Go.Proofs.Try.underlying10, ⟨_, _, rfl, rfl, rfl, rfl, rfl⟩, rfl, rfl, .inl rfl, by decide⟩
def ti11 : TI := ⟨.string, 1, 16, [.str ⟨#[]⟩], []⟩
theorem tok11 : TOK Go.Proofs.Try.prog 11 ti11 := ⟨Go.Proofs.Try.underlying11, ⟨_, _, rfl, rfl, rfl, rfl, rfl⟩, rfl, rfl, .inl rfl, by decide⟩
def ti12 : TI := ⟨.int .u64, 1, 8, [.int .u64 0], []⟩
theorem tok12 : TOK Go.Proofs.Try.prog 12 ti12 := ⟨Go.Proofs.Try.underlying12, ⟨_, _, rfl, rfl, rfl, rfl, rfl⟩, rfl, rfl, .inl rfl, by decide⟩
def ti13 : TI := ⟨.struct #[{ name := "msg", type := 9, offset := 0, embedded := false, tag := "", pkgPath := "runtime", byteOffset := 0 }, { name := "addr", type := 12, offset := 1, embedded := false, tag := "", pkgPath := "runtime", byteOffset := 16 }], 2, 24, [.str ⟨#[]⟩, .int .u64 0], [(0, 1), (1, 1)]⟩
theorem tok13 : TOK Go.Proofs.Try.prog 13 ti13 := ⟨Go.Proofs.Try.underlying13, ⟨_, _, rfl, rfl, rfl, rfl, rfl⟩, rfl, rfl, .inr ⟨_, rfl, ⟨⟨_, rfl, rfl, rfl, by decide⟩, ⟨_, rfl, rfl, rfl, by decide⟩, trivial⟩, rfl⟩, by decide⟩
def ti14 : TI := ⟨.struct #[{ name := "msg", type := 9, offset := 0, embedded := false, tag := "", pkgPath := "runtime", byteOffset := 0 }, { name := "addr", type := 12, offset := 1, embedded := false, tag := "", pkgPath := "runtime", byteOffset := 16 }], 2, 24, [.str ⟨#[]⟩, .int .u64 0], [(0, 1), (1, 1)]⟩
theorem tok14 : TOK Go.Proofs.Try.prog 14 ti14 := ⟨Go.Proofs.Try.underlying14, ⟨_, _, rfl, rfl, rfl, rfl, rfl⟩, rfl, rfl, .inr ⟨_, rfl, ⟨⟨_, rfl, rfl, rfl, by decide⟩, ⟨_, rfl, rfl, rfl, by decide⟩, trivial⟩, rfl⟩, by decide⟩
def ti15 : TI := ⟨.pointer 231, 1, 8, [.nilp], []⟩
theorem tok15 : TOK Go.Proofs.Try.prog 15 ti15 := ⟨Go.Proofs.Try.underlying15, ⟨_, _, rfl, rfl, rfl, rfl, rfl⟩, rfl, rfl, .inl rfl, by decide⟩
def ti16 : TI := ⟨.pointer 234, 1, 8, [.nilp], []⟩
theorem tok16 : TOK Go.Proofs.Try.prog 16 ti16 := ⟨Go.Proofs.Try.underlying16, ⟨_, _, rfl, rfl, rfl, rfl, rfl⟩, rfl, rfl, .inl rfl, by decide⟩
def ti17 : TI := ⟨.pointer 243, 1, 8, [.nilp], []⟩
theorem tok17 : TOK Go.Proofs.Try.prog 17 ti17 := ⟨Go.Proofs.Try.underlying17, ⟨_, _, rfl, rfl, rfl, rfl, rfl⟩, rfl, rfl, .inl rfl, by decide⟩
def ti18 : TI := ⟨.struct #[{ name := "typ", type := 17, offset := 0, embedded := false, tag := "", pkgPath := "internal/runtime/maps", byteOffset := 0 }], 1, 8, [.nilp], [(0, 1)]⟩
theorem tok18 : TOK Go.Proofs.Try.prog 18 ti18 := ⟨Go.Proofs.Try.underlying18, ⟨_, _, rfl, rfl, rfl, rfl, rfl⟩, rfl, rfl, .inr ⟨_, rfl, ⟨⟨_, rfl, rfl, rfl, by decide⟩, trivial⟩, rfl⟩, by decide⟩
def ti19 : TI := ⟨.struct #[{ name := "typ", type := 17, offset := 0, embedded := false, tag := "", pkgPath := "internal/runtime/maps", byteOffset := 0 }], 1, 8, [.nilp], [(0, 1)]⟩
theorem tok19 : TOK Go.Proofs.Try.prog 19 ti19 := ⟨Go.Proofs.Try.underlying19, ⟨_, _, rfl, rfl, rfl, rfl, rfl⟩, rfl, rfl, .inr ⟨_, rfl, ⟨⟨_, rfl, rfl, rfl, by decide⟩, trivial⟩, rfl⟩, by decide⟩
def ti20 : TI := ⟨.interface #[], 1, 16, [.nilif], []⟩
theorem tok20 : TOK Go.Proofs.Try.prog 20 ti20 := ⟨Go.Proofs.Try.underlying20, ⟨_, _, rfl, rfl, rfl, rfl, rfl⟩, rfl, rfl, .inl rfl, by decide⟩
def ti21 : TI := ⟨.int .i32, 1, 4, [.int .i32 0], []⟩
theorem tok21 : TOK Go.Proofs.Try.prog 21 ti21 := ⟨Go.Proofs.Try.underlying21, ⟨_, _, rfl, rfl, rfl, rfl, rfl⟩, rfl, rfl, .inl rfl, by decide⟩
def ti22 : TI := ⟨.slice 107, 1, 24, [.imm 0 3 true []], []⟩
theorem tok22 : TOK Go.Proofs.Try.prog 22 ti22 := ⟨Go.Proofs.Try.underlying22, ⟨_, _, rfl, rfl, rfl, rfl, rfl⟩, rfl, rfl, .inl rfl, by decide⟩
def ti23 : TI := ⟨.slice 25, 1, 24, [.imm 0 4 true []], []⟩
theorem tok23 : TOK Go.Proofs.Try.prog 23 ti23 := ⟨Go.Proofs.Try.underlying23, ⟨_, _, rfl, rfl, rfl, rfl, rfl⟩, rfl, rfl, .inl rfl, by decide⟩
def ti24 : TI := ⟨.struct #[{ name := "Kind", type := 3, offset := 0, embedded := false, tag := "", pkgPath := "", byteOffset := 0 }, { name := "N", type := 3, offset := 1, embedded := false, tag := "", pkgPath := "", byteOffset := 8 }, { name := "Types", type := 22, offset := 2, embedded := false, tag := "", pkgPath := "", byteOffset := 16 }, { name := "Kids", type := 23, offset := 3, embedded := false, tag := "", pkgPath := "", byteOffset := 40 }], 4, 64, [.int .i64 0, .int .i64 0, .imm 0 3 true [], .imm 0 4 true []], [(0, 1), (1, 1), (2, 1), (3, 1)]⟩
theorem tok24 : TOK Go.Proofs.Try.prog 24 ti24 := ⟨Go.Proofs.Try.underlying24, ⟨_, _, rfl, rfl, rfl, rfl, rfl⟩, rfl, rfl, .inr ⟨_, rfl, ⟨⟨_, rfl, rfl, rfl, by decide⟩, ⟨_, rfl, rfl, rfl, by decide⟩, ⟨_, rfl, rfl, rfl, by decide⟩, ⟨_, rfl, rfl, rfl, by decide⟩, trivial⟩, rfl⟩, by decide⟩
def ti25 : TI := ⟨.struct #[{ name := "Kind", type := 3, offset := 0, embedded := false, tag := "", pkgPath := "", byteOffset := 0 }, { name := "N", type := 3, offset := 1, embedded := false, tag := "", pkgPath := "", byteOffset := 8 }, { name := "Types", type := 22, offset := 2, embedded := false, tag := "", pkgPath := "", byteOffset := 16 }, { name := "Kids", type := 23, offset := 3, embedded := false, tag := "", pkgPath := "", byteOffset := 40 }], 4, 64, [.int .i64 0, .int .i64 0, .imm 0 3 true [], .imm 0 4 true []], [(0, 1), (1, 1), (2, 1), (3, 1)]⟩
theorem tok25 : TOK Go.Proofs.Try.prog 25 ti25 := ⟨Go.Proofs.Try.underlying25, ⟨_, _, rfl, rfl, rfl, rfl, rfl⟩, rfl, rfl, .inr ⟨_, rfl, ⟨⟨_, rfl, rfl, rfl, by decide⟩, ⟨_, rfl, rfl, rfl, by decide⟩, ⟨_, rfl, rfl, rfl, by decide⟩, ⟨_, rfl, rfl, rfl, by decide⟩, trivial⟩, rfl⟩, by decide⟩
def ti26 : TI := ⟨.func #[25, 3] #[3] false, 1, 8, [.nilfn], []⟩
theorem tok26 : TOK Go.Proofs.Try.prog 26 ti26 := ⟨Go.Proofs.Try.underlying26, ⟨_, _, rfl, rfl, rfl, rfl, rfl⟩, rfl, rfl, .inl rfl, by decide⟩
def ti27 : TI := ⟨.slice 39, 1, 24, [.imm 0 3 true []], []⟩
theorem tok27 : TOK Go.Proofs.Try.prog 27 ti27 := ⟨Go.Proofs.Try.underlying27, ⟨_, _, rfl, rfl, rfl, rfl, rfl⟩, rfl, rfl, .inl rfl, by decide⟩
def ti28 : TI := ⟨.slice 30, 1, 24, [.imm 0 4 true []], []⟩
theorem tok28 : TOK Go.Proofs.Try.prog 28 ti28 := ⟨Go.Proofs.Try.underlying28, ⟨_, _, rfl, rfl, rfl, rfl, rfl⟩, rfl, rfl, .inl rfl, by decide⟩
def ti29 : TI := ⟨.struct #[{ name := "Kind", type := 3, offset := 0, embedded := false, tag := "", pkgPath := "", byteOffset := 0 }, { name := "N", type := 3, offset := 1, embedded := false, tag := "", pkgPath := "", byteOffset := 8 }, { name := "Types", type := 27, offset := 2, embedded := false, tag := "", pkgPath := "", byteOffset := 16 }, { name := "Kids", type := 28, offset := 3, embedded := false, tag := "", pkgPath := "", byteOffset := 40 }], 4, 64, [.int .i64 0, .int .i64 0, .imm 0 3 true [], .imm 0 4 true []], [(0, 1), (1, 1), (2, 1), (3, 1)]⟩
theorem tok29 : TOK Go.Proofs.Try.prog 29 ti29 := ⟨Go.Proofs.Try.underlying29, ⟨_, _, rfl, rfl, rfl, rfl, rfl⟩, rfl, rfl, .inr ⟨_, rfl, ⟨⟨_, rfl, rfl, rfl, by decide⟩, ⟨_, rfl, rfl, rfl, by decide⟩, ⟨_, rfl, rfl, rfl, by decide⟩, ⟨_, rfl, rfl, rfl, by decide⟩, trivial⟩, rfl⟩, by decide⟩
def ti30 : TI := ⟨.struct #[{ name := "Kind", type := 3, offset := 0, embedded := false, tag := "", pkgPath := "", byteOffset := 0 }, { name := "N", type := 3, offset := 1, embedded := false, tag := "", pkgPath := "", byteOffset := 8 }, { name := "Types", type := 27, offset := 2, embedded := false, tag := "", pkgPath := "", byteOffset := 16 }, { name := "Kids", type := 28, offset := 3, embedded := false, tag := "", pkgPath := "", byteOffset := 40 }], 4, 64, [.int .i64 0, .int .i64 0, .imm 0 3 true [], .imm 0 4 true []], [(0, 1), (1, 1), (2, 1), (3, 1)]⟩
theorem tok30 : TOK Go.Proofs.Try.prog 30 ti30 := ⟨Go.Proofs.Try.underlying30, ⟨_, _, rfl, rfl, rfl, rfl, rfl⟩, rfl, rfl, .inr ⟨_, rfl, ⟨⟨_, rfl, rfl, rfl, by decide⟩, ⟨_, rfl, rfl, rfl, by decide⟩, ⟨_, rfl, rfl, rfl, by decide⟩, ⟨_, rfl, rfl, rfl, by decide⟩, trivial⟩, rfl⟩, by decide⟩
def ti32 : TI := ⟨.func #[30] #[30, 4, 3] false, 1, 8, [.nilfn], []⟩
theorem tok32 : TOK Go.Proofs.Try.prog 32 ti32 := ⟨Go.Proofs.Try.underlying32, ⟨_, _, rfl, rfl, rfl, rfl, rfl⟩, rfl, rfl, .inl rfl, by decide⟩
def ti33 : TI := ⟨.func #[25] #[30] false, 1, 8, [.nilfn], []⟩
theorem tok33 : TOK Go.Proofs.Try.prog 33 ti33 := ⟨Go.Proofs.Try.underlying33, ⟨_, _, rfl, rfl, rfl, rfl, rfl⟩, rfl, rfl, .inl rfl, by decide⟩
def ti34 : TI := ⟨.func #[30, 30] #[4] false, 1, 8, [.nilfn], []⟩
theorem tok34 : TOK Go.Proofs.Try.prog 34 ti34 := ⟨Go.Proofs.Try.underlying34, ⟨_, _, rfl, rfl, rfl, rfl, rfl⟩, rfl, rfl, .inl rfl, by decide⟩
def ti35 : TI := ⟨.func #[30, 3] #[3] false, 1, 8, [.nilfn], []⟩
theorem tok35 : TOK Go.Proofs.Try.prog 35 ti35 := ⟨Go.Proofs.Try.underlying35, ⟨_, _, rfl, rfl, rfl, rfl, rfl⟩, rfl, rfl, .inl rfl, by decide⟩
def ti36 : TI := ⟨.func #[25] #[4] false, 1, 8, [.nilfn], []⟩
theorem tok36 : TOK Go.Proofs.Try.prog 36 ti36 := ⟨Go.Proofs.Try.underlying36, ⟨_, _, rfl, rfl, rfl, rfl, rfl⟩, rfl, rfl, .inl rfl, by decide⟩
def ti37 : TI := ⟨.func #[22, 3] #[3] false, 1, 8, [.nilfn], []⟩
theorem tok37 : TOK Go.Proofs.Try.prog 37 ti37 := ⟨Go.Proofs.Try.underlying37, ⟨_, _, rfl, rfl, rfl, rfl, rfl⟩, rfl, rfl, .inl rfl, by decide⟩
def ti38 : TI := ⟨.struct #[{ name := "Kind", type := 3, offset := 0, embedded := false, tag := "", pkgPath := "", byteOffset := 0 }, { name := "N", type := 3, offset := 1, embedded := false, tag := "", pkgPath := "", byteOffset := 8 }, { name := "Kids", type := 27, offset := 2, embedded := false, tag := "", pkgPath := "", byteOffset := 16 }], 3, 40, [.int .i64 0, .int .i64 0, .imm 0 3 true []], [(0, 1), (1, 1), (2, 1)]⟩
theorem tok38 : TOK Go.Proofs.Try.prog 38 ti38 := ⟨Go.Proofs.Try.underlying38, ⟨_, _, rfl, rfl, rfl, rfl, rfl⟩, rfl, rfl, .inr ⟨_, rfl, ⟨⟨_, rfl, rfl, rfl, by decide⟩, ⟨_, rfl, rfl, rfl, by decide⟩, ⟨_, rfl, rfl, rfl, by decide⟩, trivial⟩, rfl⟩, by decide⟩
def ti39 : TI := ⟨.struct #[{ name := "Kind", type := 3, offset := 0, embedded := false, tag := "", pkgPath := "", byteOffset := 0 }, { name := "N", type := 3, offset := 1, embedded := false, tag := "", pkgPath := "", byteOffset := 8 }, { name := "Kids", type := 27, offset := 2, embedded := false, tag := "", pkgPath := "", byteOffset := 16 }], 3, 40, [.int .i64 0, .int .i64 0, .imm 0 3 true []], [(0, 1), (1, 1), (2, 1)]⟩
theorem tok39 : TOK Go.Proofs.Try.prog 39 ti39 := ⟨Go.Proofs.Try.underlying39, ⟨_, _, rfl, rfl, rfl, rfl, rfl⟩, rfl, rfl, .inr ⟨_, rfl, ⟨⟨_, rfl, rfl, rfl, by decide⟩, ⟨_, rfl, rfl, rfl, by decide⟩, ⟨_, rfl, rfl, rfl, by decide⟩, trivial⟩, rfl⟩, by decide⟩
def ti41 : TI := ⟨.func #[27, 30] #[39, 3, 3] false, 1, 8, [.nilfn], []⟩
theorem tok41 : TOK Go.Proofs.Try.prog 41 ti41 := ⟨Go.Proofs.Try.underlying41, ⟨_, _, rfl, rfl, rfl, rfl, rfl⟩, rfl, rfl, .inl rfl, by decide⟩
def ti42 : TI := ⟨.func #[22] #[27] false, 1, 8, [.nilfn], []⟩
theorem tok42 : TOK Go.Proofs.Try.prog 42 ti42 := ⟨Go.Proofs.Try.underlying42, ⟨_, _, rfl, rfl, rfl, rfl, rfl⟩, rfl, rfl, .inl rfl, by decide⟩
def ti43 : TI := ⟨.func #[39, 39] #[4] false, 1, 8, [.nilfn], []⟩
theorem tok43 : TOK Go.Proofs.Try.prog 43 ti43 := ⟨Go.Proofs.Try.underlying43, ⟨_, _, rfl, rfl, rfl, rfl, rfl⟩, rfl, rfl, .inl rfl, by decide⟩
def ti44 : TI := ⟨.func #[27, 27] #[4] false, 1, 8, [.nilfn], []⟩
theorem tok44 : TOK Go.Proofs.Try.prog 44 ti44 := ⟨Go.Proofs.Try.underlying44, ⟨_, _, rfl, rfl, rfl, rfl, rfl⟩, rfl, rfl, .inl rfl, by decide⟩
def ti45 : TI := ⟨.func #[27, 3] #[3] false, 1, 8, [.nilfn], []⟩
theorem tok45 : TOK Go.Proofs.Try.prog 45 ti45 := ⟨Go.Proofs.Try.underlying45, ⟨_, _, rfl, rfl, rfl, rfl, rfl⟩, rfl, rfl, .inl rfl, by decide⟩
def ti46 : TI := ⟨.func #[39, 3] #[3] false, 1, 8, [.nilfn], []⟩
theorem tok46 : TOK Go.Proofs.Try.prog 46 ti46 := ⟨Go.Proofs.Try.underlying46, ⟨_, _, rfl, rfl, rfl, rfl, rfl⟩, rfl, rfl, .inl rfl, by decide⟩
def ti47 : TI := ⟨.func #[22, 25] #[4] false, 1, 8, [.nilfn], []⟩
theorem tok47 : TOK Go.Proofs.Try.prog 47 ti47 := ⟨Go.Proofs.Try.underlying47, ⟨_, _, rfl, rfl, rfl, rfl, rfl⟩, rfl, rfl, .inl rfl, by decide⟩
def ti48 : TI := ⟨.slice 139, 1, 24, [.imm 0 3 true []], []⟩
theorem tok48 : TOK Go.Proofs.Try.prog 48 ti48 := ⟨Go.Proofs.Try.underlying48, ⟨_, _, rfl, rfl, rfl, rfl, rfl⟩, rfl, rfl, .inl rfl, by decide⟩
def ti49 : TI := ⟨.slice 51, 1, 24, [.imm 0 4 true []], []⟩
theorem tok49 : TOK Go.Proofs.Try.prog 49 ti49 := ⟨Go.Proofs.Try.underlying49, ⟨_, _, rfl, rfl, rfl, rfl, rfl⟩, rfl, rfl, .inl rfl, by decide⟩
def ti50 : TI := ⟨.struct #[{ name := "Kind", type := 3, offset := 0, embedded := false, tag := "", pkgPath := "", byteOffset := 0 }, { name := "N", type := 3, offset := 1, embedded := false, tag := "", pkgPath := "", byteOffset := 8 }, { name := "Forms", type := 48, offset := 2, embedded := false, tag := "", pkgPath := "", byteOffset := 16 }, { name := "Kids", type := 49, offset := 3, embedded := false, tag := "", pkgPath := "", byteOffset := 40 }], 4, 64, [.int .i64 0, .int .i64 0, .imm 0 3 true [], .imm 0 4 true []], [(0, 1), (1, 1), (2, 1), (3, 1)]⟩
theorem tok50 : TOK Go.Proofs.Try.prog 50 ti50 := ⟨Go.Proofs.Try.underlying50, ⟨_, _, rfl, rfl, rfl, rfl, rfl⟩, rfl, rfl, .inr ⟨_, rfl, ⟨⟨_, rfl, rfl, rfl, by decide⟩, ⟨_, rfl, rfl, rfl, by decide⟩, ⟨_, rfl, rfl, rfl, by decide⟩, ⟨_, rfl, rfl, rfl, by decide⟩, trivial⟩, rfl⟩, by decide⟩
def ti51 : TI := ⟨.struct #[{ name := "Kind", type := 3, offset := 0, embedded := false, tag := "", pkgPath := "", byteOffset := 0 }, { name := "N", type := 3, offset := 1, embedded := false, tag := "", pkgPath := "", byteOffset := 8 }, { name := "Forms", type := 48, offset := 2, embedded := false, tag := "", pkgPath := "", byteOffset := 16 }, { name := "Kids", type := 49, offset := 3, embedded := false, tag := "", pkgPath := "", byteOffset := 40 }], 4, 64, [.int .i64 0, .int .i64 0, .imm 0 3 true [], .imm 0 4 true []], [(0, 1), (1, 1), (2, 1), (3, 1)]⟩
theorem tok51 : TOK Go.Proofs.Try.prog 51 ti51 := ⟨Go.Proofs.Try.underlying51, ⟨_, _, rfl, rfl, rfl, rfl, rfl⟩, rfl, rfl, .inr ⟨_, rfl, ⟨⟨_, rfl, rfl, rfl, by decide⟩, ⟨_, rfl, rfl, rfl, by decide⟩, ⟨_, rfl, rfl, rfl, by decide⟩, ⟨_, rfl, rfl, rfl, by decide⟩, trivial⟩, rfl⟩, by decide⟩
def ti52 : TI := ⟨.func #[51, 3] #[3] false, 1, 8, [.nilfn], []⟩
theorem tok52 : TOK Go.Proofs.Try.prog 52 ti52 := ⟨Go.Proofs.Try.underlying52, ⟨_, _, rfl, rfl, rfl, rfl, rfl⟩, rfl, rfl, .inl rfl, by decide⟩
def ti53 : TI := ⟨.slice 55, 1, 24, [.imm 0 4 true []], []⟩
theorem tok53 : TOK Go.Proofs.Try.prog 53 ti53 := ⟨Go.Proofs.Try.underlying53, ⟨_, _, rfl, rfl, rfl, rfl, rfl⟩, rfl, rfl, .inl rfl, by decide⟩
def ti54 : TI := ⟨.struct #[{ name := "Kind", type := 3, offset := 0, embedded := false, tag := "", pkgPath := "", byteOffset := 0 }, { name := "N", type := 3, offset := 1, embedded := false, tag := "", pkgPath := "", byteOffset := 8 }, { name := "Name", type := 9, offset := 2, embedded := false, tag := "", pkgPath := "", byteOffset := 16 }, { name := "Kids", type := 53, offset := 3, embedded := false, tag := "", pkgPath := "", byteOffset := 32 }], 4, 56, [.int .i64 0, .int .i64 0, .str ⟨#[]⟩, .imm 0 4 true []], [(0, 1), (1, 1), (2, 1), (3, 1)]⟩
theorem tok54 : TOK Go.Proofs.Try.prog 54 ti54 := ⟨Go.Proofs.Try.underlying54, ⟨_, _, rfl, rfl, rfl, rfl, rfl⟩, rfl, rfl, .inr ⟨_, rfl, ⟨⟨_, rfl, rfl, rfl, by decide⟩, ⟨_, rfl, rfl, rfl, by decide⟩, ⟨_, rfl, rfl, rfl, by decide⟩, ⟨_, rfl, rfl, rfl, by decide⟩, trivial⟩, rfl⟩, by decide⟩
def ti55 : TI := ⟨.struct #[{ name := "Kind", type := 3, offset := 0, embedded := false, tag := "", pkgPath := "", byteOffset := 0 }, { name := "N", type := 3, offset := 1, embedded := false, tag := "", pkgPath := "", byteOffset := 8 }, { name := "Name", type := 9, offset := 2, embedded := false, tag := "", pkgPath := "", byteOffset := 16 }, { name := "Kids", type := 53, offset := 3, embedded := false, tag := "", pkgPath := "", byteOffset := 32 }], 4, 56, [.int .i64 0, .int .i64 0, .str ⟨#[]⟩, .imm 0 4 true []], [(0, 1), (1, 1), (2, 1), (3, 1)]⟩
theorem tok55 : TOK Go.Proofs.Try.prog 55 ti55 := ⟨Go.Proofs.Try.underlying55, ⟨_, _, rfl, rfl, rfl, rfl, rfl⟩, rfl, rfl, .inr ⟨_, rfl, ⟨⟨_, rfl, rfl, rfl, by decide⟩, ⟨_, rfl, rfl, rfl, by decide⟩, ⟨_, rfl, rfl, rfl, by decide⟩, ⟨_, rfl, rfl, rfl, by decide⟩, trivial⟩, rfl⟩, by decide⟩
def ti57 : TI := ⟨.func #[61] #[55, 3] false, 1, 8, [.nilfn], []⟩
theorem tok57 : TOK Go.Proofs.Try.prog 57 ti57 := ⟨Go.Proofs.Try.underlying57, ⟨_, _, rfl, rfl, rfl, rfl, rfl⟩, rfl, rfl, .inl rfl, by decide⟩
def ti58 : TI := ⟨.slice 72, 1, 24, [.imm 0 3 true []], []⟩
theorem tok58 : TOK Go.Proofs.Try.prog 58 ti58 := ⟨Go.Proofs.Try.underlying58, ⟨_, _, rfl, rfl, rfl, rfl, rfl⟩, rfl, rfl, .inl rfl, by decide⟩
def ti59 : TI := ⟨.slice 61, 1, 24, [.imm 0 4 true []], []⟩
theorem tok59 : TOK Go.Proofs.Try.prog 59 ti59 := ⟨Go.Proofs.Try.underlying59, ⟨_, _, rfl, rfl, rfl, rfl, rfl⟩, rfl, rfl, .inl rfl, by decide⟩
def ti60 : TI := ⟨.struct #[{ name := "Kind", type := 3, offset := 0, embedded := false, tag := "", pkgPath := "", byteOffset := 0 }, { name := "N", type := 3, offset := 1, embedded := false, tag := "", pkgPath := "", byteOffset := 8 }, { name := "Forms", type := 58, offset := 2, embedded := false, tag := "", pkgPath := "", byteOffset := 16 }, { name := "Kids", type := 59, offset := 3, embedded := false, tag := "", pkgPath := "", byteOffset := 40 }], 4, 64, [.int .i64 0, .int .i64 0, .imm 0 3 true [], .imm 0 4 true []], [(0, 1), (1, 1), (2, 1), (3, 1)]⟩
theorem tok60 : TOK Go.Proofs.Try.prog 60 ti60 := ⟨Go.Proofs.Try.underlying60, ⟨_, _, rfl, rfl, rfl, rfl, rfl⟩, rfl, rfl, .inr ⟨_, rfl, ⟨⟨_, rfl, rfl, rfl, by decide⟩, ⟨_, rfl, rfl, rfl, by decide⟩, ⟨_, rfl, rfl, rfl, by decide⟩, ⟨_, rfl, rfl, rfl, by decide⟩, trivial⟩, rfl⟩, by decide⟩
def ti61 : TI := ⟨.struct #[{ name := "Kind", type := 3, offset := 0, embedded := false, tag := "", pkgPath := "", byteOffset := 0 }, { name := "N", type := 3, offset := 1, embedded := false, tag := "", pkgPath := "", byteOffset := 8 }, { name := "Forms", type := 58, offset := 2, embedded := false, tag := "", pkgPath := "", byteOffset := 16 }, { name := "Kids", type := 59, offset := 3, embedded := false, tag := "", pkgPath := "", byteOffset := 40 }], 4, 64, [.int .i64 0, .int .i64 0, .imm 0 3 true [], .imm 0 4 true []], [(0, 1), (1, 1), (2, 1), (3, 1)]⟩
theorem tok61 : TOK Go.Proofs.Try.prog 61 ti61 := ⟨Go.Proofs.Try.underlying61, ⟨_, _, rfl, rfl, rfl, rfl, rfl⟩, rfl, rfl, .inr ⟨_, rfl, ⟨⟨_, rfl, rfl, rfl, by decide⟩, ⟨_, rfl, rfl, rfl, by decide⟩, ⟨_, rfl, rfl, rfl, by decide⟩, ⟨_, rfl, rfl, rfl, by decide⟩, trivial⟩, rfl⟩, by decide⟩
def ti62 : TI := ⟨.func #[51] #[61] false, 1, 8, [.nilfn], []⟩
theorem tok62 : TOK Go.Proofs.Try.prog 62 ti62 := ⟨Go.Proofs.Try.underlying62, ⟨_, _, rfl, rfl, rfl, rfl, rfl⟩, rfl, rfl, .inl rfl, by decide⟩
def ti63 : TI := ⟨.func #[55, 55] #[4] false, 1, 8, [.nilfn], []⟩
theorem tok63 : TOK Go.Proofs.Try.prog 63 ti63 := ⟨Go.Proofs.Try.underlying63, ⟨_, _, rfl, rfl, rfl, rfl, rfl⟩, rfl, rfl, .inl rfl, by decide⟩
def ti64 : TI := ⟨.func #[61, 61] #[4] false, 1, 8, [.nilfn], []⟩
theorem tok64 : TOK Go.Proofs.Try.prog 64 ti64 := ⟨Go.Proofs.Try.underlying64, ⟨_, _, rfl, rfl, rfl, rfl, rfl⟩, rfl, rfl, .inl rfl, by decide⟩
def ti65 : TI := ⟨.func #[61, 3] #[3] false, 1, 8, [.nilfn], []⟩
theorem tok65 : TOK Go.Proofs.Try.prog 65 ti65 := ⟨Go.Proofs.Try.underlying65, ⟨_, _, rfl, rfl, rfl, rfl, rfl⟩, rfl, rfl, .inl rfl, by decide⟩
def ti66 : TI := ⟨.func #[55, 3] #[3] false, 1, 8, [.nilfn], []⟩
theorem tok66 : TOK Go.Proofs.Try.prog 66 ti66 := ⟨Go.Proofs.Try.underlying66, ⟨_, _, rfl, rfl, rfl, rfl, rfl⟩, rfl, rfl, .inl rfl, by decide⟩
def ti67 : TI := ⟨.func #[51] #[4] false, 1, 8, [.nilfn], []⟩
theorem tok67 : TOK Go.Proofs.Try.prog 67 ti67 := ⟨Go.Proofs.Try.underlying67, ⟨_, _, rfl, rfl, rfl, rfl, rfl⟩, rfl, rfl, .inl rfl, by decide⟩
def ti68 : TI := ⟨.func #[30, 3] #[55, 3] false, 1, 8, [.nilfn], []⟩
theorem tok68 : TOK Go.Proofs.Try.prog 68 ti68 := ⟨Go.Proofs.Try.underlying68, ⟨_, _, rfl, rfl, rfl, rfl, rfl⟩, rfl, rfl, .inl rfl, by decide⟩
def ti69 : TI := ⟨.func #[25, 3] #[4] false, 1, 8, [.nilfn], []⟩
theorem tok69 : TOK Go.Proofs.Try.prog 69 ti69 := ⟨Go.Proofs.Try.underlying69, ⟨_, _, rfl, rfl, rfl, rfl, rfl⟩, rfl, rfl, .inl rfl, by decide⟩
def ti70 : TI := ⟨.func #[48, 3] #[3] false, 1, 8, [.nilfn], []⟩
theorem tok70 : TOK Go.Proofs.Try.prog 70 ti70 := ⟨Go.Proofs.Try.underlying70, ⟨_, _, rfl, rfl, rfl, rfl, rfl⟩, rfl, rfl, .inl rfl, by decide⟩
def ti71 : TI := ⟨.struct #[{ name := "Kind", type := 3, offset := 0, embedded := false, tag := "", pkgPath := "", byteOffset := 0 }, { name := "N", type := 3, offset := 1, embedded := false, tag := "", pkgPath := "", byteOffset := 8 }, { name := "Kids", type := 58, offset := 2, embedded := false, tag := "", pkgPath := "", byteOffset := 16 }], 3, 40, [.int .i64 0, .int .i64 0, .imm 0 3 true []], [(0, 1), (1, 1), (2, 1)]⟩
theorem tok71 : TOK Go.Proofs.Try.prog 71 ti71 := ⟨Go.Proofs.Try.underlying71, ⟨_, _, rfl, rfl, rfl, rfl, rfl⟩, rfl, rfl, .inr ⟨_, rfl, ⟨⟨_, rfl, rfl, rfl, by decide⟩, ⟨_, rfl, rfl, rfl, by decide⟩, ⟨_, rfl, rfl, rfl, by decide⟩, trivial⟩, rfl⟩, by decide⟩
def ti72 : TI := ⟨.struct #[{ name := "Kind", type := 3, offset := 0, embedded := false, tag := "", pkgPath := "", byteOffset := 0 }, { name := "N", type := 3, offset := 1, embedded := false, tag := "", pkgPath := "", byteOffset := 8 }, { name := "Kids", type := 58, offset := 2, embedded := false, tag := "", pkgPath := "", byteOffset := 16 }], 3, 40, [.int .i64 0, .int .i64 0, .imm 0 3 true []], [(0, 1), (1, 1), (2, 1)]⟩
theorem tok72 : TOK Go.Proofs.Try.prog 72 ti72 := ⟨Go.Proofs.Try.underlying72, ⟨_, _, rfl, rfl, rfl, rfl, rfl⟩, rfl, rfl, .inr ⟨_, rfl, ⟨⟨_, rfl, rfl, rfl, by decide⟩, ⟨_, rfl, rfl, rfl, by decide⟩, ⟨_, rfl, rfl, rfl, by decide⟩, trivial⟩, rfl⟩, by decide⟩
def ti74 : TI := ⟨.func #[58, 61] #[72, 3, 3] false, 1, 8, [.nilfn], []⟩
theorem tok74 : TOK Go.Proofs.Try.prog 74 ti74 := ⟨Go.Proofs.Try.underlying74, ⟨_, _, rfl, rfl, rfl, rfl, rfl⟩, rfl, rfl, .inl rfl, by decide⟩
def ti75 : TI := ⟨.func #[48] #[58] false, 1, 8, [.nilfn], []⟩
theorem tok75 : TOK Go.Proofs.Try.prog 75 ti75 := ⟨Go.Proofs.Try.underlying75, ⟨_, _, rfl, rfl, rfl, rfl, rfl⟩, rfl, rfl, .inl rfl, by decide⟩
def ti76 : TI := ⟨.func #[72, 72] #[4] false, 1, 8, [.nilfn], []⟩
theorem tok76 : TOK Go.Proofs.Try.prog 76 ti76 := ⟨Go.Proofs.Try.underlying76, ⟨_, _, rfl, rfl, rfl, rfl, rfl⟩, rfl, rfl, .inl rfl, by decide⟩
def ti77 : TI := ⟨.func #[58, 58] #[4] false, 1, 8, [.nilfn], []⟩
theorem tok77 : TOK Go.Proofs.Try.prog 77 ti77 := ⟨Go.Proofs.Try.underlying77, ⟨_, _, rfl, rfl, rfl, rfl, rfl⟩, rfl, rfl, .inl rfl, by decide⟩
def ti78 : TI := ⟨.func #[58, 3] #[3] false, 1, 8, [.nilfn], []⟩
theorem tok78 : TOK Go.Proofs.Try.prog 78 ti78 := ⟨Go.Proofs.Try.underlying78, ⟨_, _, rfl, rfl, rfl, rfl, rfl⟩, rfl, rfl, .inl rfl, by decide⟩
def ti79 : TI := ⟨.func #[72, 3] #[3] false, 1, 8, [.nilfn], []⟩
theorem tok79 : TOK Go.Proofs.Try.prog 79 ti79 := ⟨Go.Proofs.Try.underlying79, ⟨_, _, rfl, rfl, rfl, rfl, rfl⟩, rfl, rfl, .inl rfl, by decide⟩
def ti80 : TI := ⟨.func #[48, 51] #[4] false, 1, 8, [.nilfn], []⟩
theorem tok80 : TOK Go.Proofs.Try.prog 80 ti80 := ⟨Go.Proofs.Try.underlying80, ⟨_, _, rfl, rfl, rfl, rfl, rfl⟩, rfl, rfl, .inl rfl, by decide⟩
def ti82 : TI := ⟨.func #[58, 61, 61] #[61, 3] false, 1, 8, [.nilfn], []⟩
theorem tok82 : TOK Go.Proofs.Try.prog 82 ti82 := ⟨Go.Proofs.Try.underlying82, ⟨_, _, rfl, rfl, rfl, rfl, rfl⟩, rfl, rfl, .inl rfl, by decide⟩
def ti83 : TI := ⟨.func #[48, 51, 51] #[4] false, 1, 8, [.nilfn], []⟩
theorem tok83 : TOK Go.Proofs.Try.prog 83 ti83 := ⟨Go.Proofs.Try.underlying83, ⟨_, _, rfl, rfl, rfl, rfl, rfl⟩, rfl, rfl, .inl rfl, by decide⟩
def ti85 : TI := ⟨.func #[27, 30] #[55, 55, 3] false, 1, 8, [.nilfn], []⟩
theorem tok85 : TOK Go.Proofs.Try.prog 85 ti85 := ⟨Go.Proofs.Try.underlying85, ⟨_, _, rfl, rfl, rfl, rfl, rfl⟩, rfl, rfl, .inl rfl, by decide⟩
def ti86 : TI := ⟨.slice 5, 1, 24, [.imm 0 1 true []], []⟩
theorem tok86 : TOK Go.Proofs.Try.prog 86 ti86 := ⟨Go.Proofs.Try.underlying86, ⟨_, _, rfl, rfl, rfl, rfl, rfl⟩, rfl, rfl, .inl rfl, by decide⟩
def ti88 : TI := ⟨.func #[86] #[58, 61, 72] false, 1, 8, [.nilfn], []⟩
theorem tok88 : TOK Go.Proofs.Try.prog 88 ti88 := ⟨Go.Proofs.Try.underlying88, ⟨_, _, rfl, rfl, rfl, rfl, rfl⟩, rfl, rfl, .inl rfl, by decide⟩
def ti89 : TI := ⟨.func #[61] #[4] false, 1, 8, [.nilfn], []⟩
theorem tok89 : TOK Go.Proofs.Try.prog 89 ti89 := ⟨Go.Proofs.Try.underlying89, ⟨_, _, rfl, rfl, rfl, rfl, rfl⟩, rfl, rfl, .inl rfl, by decide⟩
def ti90 : TI := ⟨.func #[86] #[72] false, 1, 8, [.nilfn], []⟩
theorem tok90 : TOK Go.Proofs.Try.prog 90 ti90 := ⟨Go.Proofs.Try.underlying90, ⟨_, _, rfl, rfl, rfl, rfl, rfl⟩, rfl, rfl, .inl rfl, by decide⟩
def ti91 : TI := ⟨.func #[86, 86] #[4] false, 1, 8, [.nilfn], []⟩
theorem tok91 : TOK Go.Proofs.Try.prog 91 ti91 := ⟨Go.Proofs.Try.underlying91, ⟨_, _, rfl, rfl, rfl, rfl, rfl⟩, rfl, rfl, .inl rfl, by decide⟩
def ti93 : TI := ⟨.func #[86] #[27, 30, 39] false, 1, 8, [.nilfn], []⟩
theorem tok93 : TOK Go.Proofs.Try.prog 93 ti93 := ⟨Go.Proofs.Try.underlying93, ⟨_, _, rfl, rfl, rfl, rfl, rfl⟩, rfl, rfl, .inl rfl, by decide⟩
def ti94 : TI := ⟨.func #[30] #[4] false, 1, 8, [.nilfn], []⟩
theorem tok94 : TOK Go.Proofs.Try.prog 94 ti94 := ⟨Go.Proofs.Try.underlying94, ⟨_, _, rfl, rfl, rfl, rfl, rfl⟩, rfl, rfl, .inl rfl, by decide⟩
def ti95 : TI := ⟨.func #[86] #[4] false, 1, 8, [.nilfn], []⟩
theorem tok95 : TOK Go.Proofs.Try.prog 95 ti95 := ⟨Go.Proofs.Try.underlying95, ⟨_, _, rfl, rfl, rfl, rfl, rfl⟩, rfl, rfl, .inl rfl, by decide⟩
def ti97 : TI := ⟨.func #[86] #[27, 30] false, 1, 8, [.nilfn], []⟩
theorem tok97 : TOK Go.Proofs.Try.prog 97 ti97 := ⟨Go.Proofs.Try.underlying97, ⟨_, _, rfl, rfl, rfl, rfl, rfl⟩, rfl, rfl, .inl rfl, by decide⟩
def ti98 : TI := ⟨.func #[3] #[4] false, 1, 8, [.nilfn], []⟩
theorem tok98 : TOK Go.Proofs.Try.prog 98 ti98 := ⟨Go.Proofs.Try.underlying98, ⟨_, _, rfl, rfl, rfl, rfl, rfl⟩, rfl, rfl, .inl rfl, by decide⟩
def ti99 : TI := ⟨.func #[23, 3] #[3] false, 1, 8, [.nilfn], []⟩
theorem tok99 : TOK Go.Proofs.Try.prog 99 ti99 := ⟨Go.Proofs.Try.underlying99, ⟨_, _, rfl, rfl, rfl, rfl, rfl⟩, rfl, rfl, .inl rfl, by decide⟩
def ti101 : TI := ⟨.func #[30] #[30, 4] false, 1, 8, [.nilfn], []⟩
theorem tok101 : TOK Go.Proofs.Try.prog 101 ti101 := ⟨Go.Proofs.Try.underlying101, ⟨_, _, rfl, rfl, rfl, rfl, rfl⟩, rfl, rfl, .inl rfl, by decide⟩
def ti102 : TI := ⟨.func #[23] #[28] false, 1, 8, [.nilfn], []⟩
theorem tok102 : TOK Go.Proofs.Try.prog 102 ti102 := ⟨Go.Proofs.Try.underlying102, ⟨_, _, rfl, rfl, rfl, rfl, rfl⟩, rfl, rfl, .inl rfl, by decide⟩
def ti103 : TI := ⟨.func #[28, 28] #[4] false, 1, 8, [.nilfn], []⟩
theorem tok103 : TOK Go.Proofs.Try.prog 103 ti103 := ⟨Go.Proofs.Try.underlying103, ⟨_, _, rfl, rfl, rfl, rfl, rfl⟩, rfl, rfl, .inl rfl, by decide⟩
def ti104 : TI := ⟨.func #[28, 3] #[3] false, 1, 8, [.nilfn], []⟩
theorem tok104 : TOK Go.Proofs.Try.prog 104 ti104 := ⟨Go.Proofs.Try.underlying104, ⟨_, _, rfl, rfl, rfl, rfl, rfl⟩, rfl, rfl, .inl rfl, by decide⟩
def ti105 : TI := ⟨.func #[107, 3] #[3] false, 1, 8, [.nilfn], []⟩
theorem tok105 : TOK Go.Proofs.Try.prog 105 ti105 := ⟨Go.Proofs.Try.underlying105, ⟨_, _, rfl, rfl, rfl, rfl, rfl⟩, rfl, rfl, .inl rfl, by decide⟩
def ti106 : TI := ⟨.struct #[{ name := "Kind", type := 3, offset := 0, embedded := false, tag := "", pkgPath := "", byteOffset := 0 }, { name := "N", type := 3, offset := 1, embedded := false, tag := "", pkgPath := "", byteOffset := 8 }, { name := "Kids", type := 22, offset := 2, embedded := false, tag := "", pkgPath := "", byteOffset := 16 }], 3, 40, [.int .i64 0, .int .i64 0, .imm 0 3 true []], [(0, 1), (1, 1), (2, 1)]⟩
theorem tok106 : TOK Go.Proofs.Try.prog 106 ti106 := ⟨Go.Proofs.Try.underlying106, ⟨_, _, rfl, rfl, rfl, rfl, rfl⟩, rfl, rfl, .inr ⟨_, rfl, ⟨⟨_, rfl, rfl, rfl, by decide⟩, ⟨_, rfl, rfl, rfl, by decide⟩, ⟨_, rfl, rfl, rfl, by decide⟩, trivial⟩, rfl⟩, by decide⟩
def ti107 : TI := ⟨.struct #[{ name := "Kind", type := 3, offset := 0, embedded := false, tag := "", pkgPath := "", byteOffset := 0 }, { name := "N", type := 3, offset := 1, embedded := false, tag := "", pkgPath := "", byteOffset := 8 }, { name := "Kids", type := 22, offset := 2, embedded := false, tag := "", pkgPath := "", byteOffset := 16 }], 3, 40, [.int .i64 0, .int .i64 0, .imm 0 3 true []], [(0, 1), (1, 1), (2, 1)]⟩
theorem tok107 : TOK Go.Proofs.Try.prog 107 ti107 := ⟨Go.Proofs.Try.underlying107, ⟨_, _, rfl, rfl, rfl, rfl, rfl⟩, rfl, rfl, .inr ⟨_, rfl, ⟨⟨_, rfl, rfl, rfl, by decide⟩, ⟨_, rfl, rfl, rfl, by decide⟩, ⟨_, rfl, rfl, rfl, by decide⟩, trivial⟩, rfl⟩, by decide⟩
def ti108 : TI := ⟨.func #[27] #[4] false, 1, 8, [.nilfn], []⟩
theorem tok108 : TOK Go.Proofs.Try.prog 108 ti108 := ⟨Go.Proofs.Try.underlying108, ⟨_, _, rfl, rfl, rfl, rfl, rfl⟩, rfl, rfl, .inl rfl, by decide⟩
def ti109 : TI := ⟨.func #[27, 30, 3] #[39, 3, 3] false, 1, 8, [.nilfn], []⟩
theorem tok109 : TOK Go.Proofs.Try.prog 109 ti109 := ⟨Go.Proofs.Try.underlying109, ⟨_, _, rfl, rfl, rfl, rfl, rfl⟩, rfl, rfl, .inl rfl, by decide⟩
def ti110 : TI := ⟨.func #[39] #[39] false, 1, 8, [.nilfn], []⟩
theorem tok110 : TOK Go.Proofs.Try.prog 110 ti110 := ⟨Go.Proofs.Try.underlying110, ⟨_, _, rfl, rfl, rfl, rfl, rfl⟩, rfl, rfl, .inl rfl, by decide⟩
def ti111 : TI := ⟨.func #[107] #[39] false, 1, 8, [.nilfn], []⟩
theorem tok111 : TOK Go.Proofs.Try.prog 111 ti111 := ⟨Go.Proofs.Try.underlying111, ⟨_, _, rfl, rfl, rfl, rfl, rfl⟩, rfl, rfl, .inl rfl, by decide⟩
def ti112 : TI := ⟨.func #[129] #[4] true, 1, 8, [.nilfn], []⟩
theorem tok112 : TOK Go.Proofs.Try.prog 112 ti112 := ⟨Go.Proofs.Try.underlying112, ⟨_, _, rfl, rfl, rfl, rfl, rfl⟩, rfl, rfl, .inl rfl, by decide⟩
def ti113 : TI := ⟨.struct #[{ name := "code", type := 3, offset := 0, embedded := false, tag := "", pkgPath := "loop.example/g00091/impl", byteOffset := 0 }, { name := "place", type := 3, offset := 1, embedded := false, tag := "", pkgPath := "loop.example/g00091/impl", byteOffset := 8 }], 2, 16, [.int .i64 0, .int .i64 0], [(0, 1), (1, 1)]⟩
theorem tok113 : TOK Go.Proofs.Try.prog 113 ti113 := ⟨Go.Proofs.Try.underlying113, ⟨_, _, rfl, rfl, rfl, rfl, rfl⟩, rfl, rfl, .inr ⟨_, rfl, ⟨⟨_, rfl, rfl, rfl, by decide⟩, ⟨_, rfl, rfl, rfl, by decide⟩, trivial⟩, rfl⟩, by decide⟩
def ti114 : TI := ⟨.struct #[{ name := "code", type := 3, offset := 0, embedded := false, tag := "", pkgPath := "loop.example/g00091/impl", byteOffset := 0 }, { name := "place", type := 3, offset := 1, embedded := false, tag := "", pkgPath := "loop.example/g00091/impl", byteOffset := 8 }], 2, 16, [.int .i64 0, .int .i64 0], [(0, 1), (1, 1)]⟩
theorem tok114 : TOK Go.Proofs.Try.prog 114 ti114 := ⟨Go.Proofs.Try.underlying114, ⟨_, _, rfl, rfl, rfl, rfl, rfl⟩, rfl, rfl, .inr ⟨_, rfl, ⟨⟨_, rfl, rfl, rfl, by decide⟩, ⟨_, rfl, rfl, rfl, by decide⟩, trivial⟩, rfl⟩, by decide⟩
def ti115 : TI := ⟨.func #[1] #[114] false, 1, 8, [.nilfn], []⟩
theorem tok115 : TOK Go.Proofs.Try.prog 115 ti115 := ⟨Go.Proofs.Try.underlying115, ⟨_, _, rfl, rfl, rfl, rfl, rfl⟩, rfl, rfl, .inl rfl, by decide⟩
def ti116 : TI := ⟨.func #[27, 30, 3] #[39] false, 1, 8, [.nilfn], []⟩
theorem tok116 : TOK Go.Proofs.Try.prog 116 ti116 := ⟨Go.Proofs.Try.underlying116, ⟨_, _, rfl, rfl, rfl, rfl, rfl⟩, rfl, rfl, .inl rfl, by decide⟩
def ti117 : TI := ⟨.func #[49, 3] #[3] false, 1, 8, [.nilfn], []⟩
theorem tok117 : TOK Go.Proofs.Try.prog 117 ti117 := ⟨Go.Proofs.Try.underlying117, ⟨_, _, rfl, rfl, rfl, rfl, rfl⟩, rfl, rfl, .inl rfl, by decide⟩
def ti118 : TI := ⟨.func #[61] #[55] false, 1, 8, [.nilfn], []⟩
theorem tok118 : TOK Go.Proofs.Try.prog 118 ti118 := ⟨Go.Proofs.Try.underlying118, ⟨_, _, rfl, rfl, rfl, rfl, rfl⟩, rfl, rfl, .inl rfl, by decide⟩
def ti119 : TI := ⟨.func #[55] #[4] false, 1, 8, [.nilfn], []⟩
theorem tok119 : TOK Go.Proofs.Try.prog 119 ti119 := ⟨Go.Proofs.Try.underlying119, ⟨_, _, rfl, rfl, rfl, rfl, rfl⟩, rfl, rfl, .inl rfl, by decide⟩
def ti120 : TI := ⟨.func #[49] #[59] false, 1, 8, [.nilfn], []⟩
theorem tok120 : TOK Go.Proofs.Try.prog 120 ti120 := ⟨Go.Proofs.Try.underlying120, ⟨_, _, rfl, rfl, rfl, rfl, rfl⟩, rfl, rfl, .inl rfl, by decide⟩
def ti121 : TI := ⟨.func #[4, 122] #[55, 3] false, 1, 8, [.nilfn], []⟩
theorem tok121 : TOK Go.Proofs.Try.prog 121 ti121 := ⟨Go.Proofs.Try.underlying121, ⟨_, _, rfl, rfl, rfl, rfl, rfl⟩, rfl, rfl, .inl rfl, by decide⟩
def ti122 : TI := ⟨.func #[] #[55] false, 1, 8, [.nilfn], []⟩
theorem tok122 : TOK Go.Proofs.Try.prog 122 ti122 := ⟨Go.Proofs.Try.underlying122, ⟨_, _, rfl, rfl, rfl, rfl, rfl⟩, rfl, rfl, .inl rfl, by decide⟩
def ti123 : TI := ⟨.func #[53, 53] #[4] false, 1, 8, [.nilfn], []⟩
theorem tok123 : TOK Go.Proofs.Try.prog 123 ti123 := ⟨Go.Proofs.Try.underlying123, ⟨_, _, rfl, rfl, rfl, rfl, rfl⟩, rfl, rfl, .inl rfl, by decide⟩
def ti124 : TI := ⟨.func #[59, 59] #[4] false, 1, 8, [.nilfn], []⟩
theorem tok124 : TOK Go.Proofs.Try.prog 124 ti124 := ⟨Go.Proofs.Try.underlying124, ⟨_, _, rfl, rfl, rfl, rfl, rfl⟩, rfl, rfl, .inl rfl, by decide⟩
def ti125 : TI := ⟨.func #[59, 3] #[3] false, 1, 8, [.nilfn], []⟩
theorem tok125 : TOK Go.Proofs.Try.prog 125 ti125 := ⟨Go.Proofs.Try.underlying125, ⟨_, _, rfl, rfl, rfl, rfl, rfl⟩, rfl, rfl, .inl rfl, by decide⟩
def ti126 : TI := ⟨.func #[53, 3] #[3] false, 1, 8, [.nilfn], []⟩
theorem tok126 : TOK Go.Proofs.Try.prog 126 ti126 := ⟨Go.Proofs.Try.underlying126, ⟨_, _, rfl, rfl, rfl, rfl, rfl⟩, rfl, rfl, .inl rfl, by decide⟩
def ti127 : TI := ⟨.func #[30, 3] #[4] false, 1, 8, [.nilfn], []⟩
theorem tok127 : TOK Go.Proofs.Try.prog 127 ti127 := ⟨Go.Proofs.Try.underlying127, ⟨_, _, rfl, rfl, rfl, rfl, rfl⟩, rfl, rfl, .inl rfl, by decide⟩
def ti128 : TI := ⟨.func #[30, 129, 3] #[55] false, 1, 8, [.nilfn], []⟩
theorem tok128 : TOK Go.Proofs.Try.prog 128 ti128 := ⟨Go.Proofs.Try.underlying128, ⟨_, _, rfl, rfl, rfl, rfl, rfl⟩, rfl, rfl, .inl rfl, by decide⟩
def ti129 : TI := ⟨.slice 3, 1, 24, [.imm 0 1 true []], []⟩
theorem tok129 : TOK Go.Proofs.Try.prog 129 ti129 := ⟨Go.Proofs.Try.underlying129, ⟨_, _, rfl, rfl, rfl, rfl, rfl⟩, rfl, rfl, .inl rfl, by decide⟩
def ti130 : TI := ⟨.func #[3, 3] #[129] false, 1, 8, [.nilfn], []⟩
theorem tok130 : TOK Go.Proofs.Try.prog 130 ti130 := ⟨Go.Proofs.Try.underlying130, ⟨_, _, rfl, rfl, rfl, rfl, rfl⟩, rfl, rfl, .inl rfl, by decide⟩
def ti131 : TI := ⟨.func #[3, 3, 3] #[4] false, 1, 8, [.nilfn], []⟩
theorem tok131 : TOK Go.Proofs.Try.prog 131 ti131 := ⟨Go.Proofs.Try.underlying131, ⟨_, _, rfl, rfl, rfl, rfl, rfl⟩, rfl, rfl, .inl rfl, by decide⟩
def ti132 : TI := ⟨.func #[122] #[55, 3] false, 1, 8, [.nilfn], []⟩
theorem tok132 : TOK Go.Proofs.Try.prog 132 ti132 := ⟨Go.Proofs.Try.underlying132, ⟨_, _, rfl, rfl, rfl, rfl, rfl⟩, rfl, rfl, .inl rfl, by decide⟩
def ti133 : TI := ⟨.func #[55] #[55] false, 1, 8, [.nilfn], []⟩
theorem tok133 : TOK Go.Proofs.Try.prog 133 ti133 := ⟨Go.Proofs.Try.underlying133, ⟨_, _, rfl, rfl, rfl, rfl, rfl⟩, rfl, rfl, .inl rfl, by decide⟩
def ti134 : TI := ⟨.slice 3, 1, 24, [.imm 0 1 true []], []⟩
theorem tok134 : TOK Go.Proofs.Try.prog 134 ti134 := ⟨Go.Proofs.Try.underlying134, ⟨_, _, rfl, rfl, rfl, rfl, rfl⟩, rfl, rfl, .inl rfl, by decide⟩
def ti135 : TI := ⟨.func #[3, 3, 3] #[134] false, 1, 8, [.nilfn], []⟩
theorem tok135 : TOK Go.Proofs.Try.prog 135 ti135 := ⟨Go.Proofs.Try.underlying135, ⟨_, _, rfl, rfl, rfl, rfl, rfl⟩, rfl, rfl, .inl rfl, by decide⟩
def ti136 : TI := ⟨.func #[30, 3] #[55] false, 1, 8, [.nilfn], []⟩
theorem tok136 : TOK Go.Proofs.Try.prog 136 ti136 := ⟨Go.Proofs.Try.underlying136, ⟨_, _, rfl, rfl, rfl, rfl, rfl⟩, rfl, rfl, .inl rfl, by decide⟩
def ti137 : TI := ⟨.func #[139, 3] #[3] false, 1, 8, [.nilfn], []⟩
theorem tok137 : TOK Go.Proofs.Try.prog 137 ti137 := ⟨Go.Proofs.Try.underlying137, ⟨_, _, rfl, rfl, rfl, rfl, rfl⟩, rfl, rfl, .inl rfl, by decide⟩
def ti138 : TI := ⟨.struct #[{ name := "Kind", type := 3, offset := 0, embedded := false, tag := "", pkgPath := "", byteOffset := 0 }, { name := "N", type := 3, offset := 1, embedded := false, tag := "", pkgPath := "", byteOffset := 8 }, { name := "Kids", type := 48, offset := 2, embedded := false, tag := "", pkgPath := "", byteOffset := 16 }], 3, 40, [.int .i64 0, .int .i64 0, .imm 0 3 true []], [(0, 1), (1, 1), (2, 1)]⟩
theorem tok138 : TOK Go.Proofs.Try.prog 138 ti138 := ⟨Go.Proofs.Try.underlying138, ⟨_, _, rfl, rfl, rfl, rfl, rfl⟩, rfl, rfl, .inr ⟨_, rfl, ⟨⟨_, rfl, rfl, rfl, by decide⟩, ⟨_, rfl, rfl, rfl, by decide⟩, ⟨_, rfl, rfl, rfl, by decide⟩, trivial⟩, rfl⟩, by decide⟩
def ti139 : TI := ⟨.struct #[{ name := "Kind", type := 3, offset := 0, embedded := false, tag := "", pkgPath := "", byteOffset := 0 }, { name := "N", type := 3, offset := 1, embedded := false, tag := "", pkgPath := "", byteOffset := 8 }, { name := "Kids", type := 48, offset := 2, embedded := false, tag := "", pkgPath := "", byteOffset := 16 }], 3, 40, [.int .i64 0, .int .i64 0, .imm 0 3 true []], [(0, 1), (1, 1), (2, 1)]⟩
theorem tok139 : TOK Go.Proofs.Try.prog 139 ti139 := ⟨Go.Proofs.Try.underlying139, ⟨_, _, rfl, rfl, rfl, rfl, rfl⟩, rfl, rfl, .inr ⟨_, rfl, ⟨⟨_, rfl, rfl, rfl, by decide⟩, ⟨_, rfl, rfl, rfl, by decide⟩, ⟨_, rfl, rfl, rfl, by decide⟩, trivial⟩, rfl⟩, by decide⟩
def ti140 : TI := ⟨.func #[58] #[4] false, 1, 8, [.nilfn], []⟩
theorem tok140 : TOK Go.Proofs.Try.prog 140 ti140 := ⟨Go.Proofs.Try.underlying140, ⟨_, _, rfl, rfl, rfl, rfl, rfl⟩, rfl, rfl, .inl rfl, by decide⟩
def ti141 : TI := ⟨.func #[58, 61, 3] #[72, 3, 3] false, 1, 8, [.nilfn], []⟩
theorem tok141 : TOK Go.Proofs.Try.prog 141 ti141 := ⟨Go.Proofs.Try.underlying141, ⟨_, _, rfl, rfl, rfl, rfl, rfl⟩, rfl, rfl, .inl rfl, by decide⟩
def ti142 : TI := ⟨.func #[72] #[72] false, 1, 8, [.nilfn], []⟩
theorem tok142 : TOK Go.Proofs.Try.prog 142 ti142 := ⟨Go.Proofs.Try.underlying142, ⟨_, _, rfl, rfl, rfl, rfl, rfl⟩, rfl, rfl, .inl rfl, by decide⟩
def ti143 : TI := ⟨.func #[139] #[72] false, 1, 8, [.nilfn], []⟩
theorem tok143 : TOK Go.Proofs.Try.prog 143 ti143 := ⟨Go.Proofs.Try.underlying143, ⟨_, _, rfl, rfl, rfl, rfl, rfl⟩, rfl, rfl, .inl rfl, by decide⟩
def ti144 : TI := ⟨.func #[58, 61, 3] #[72] false, 1, 8, [.nilfn], []⟩
theorem tok144 : TOK Go.Proofs.Try.prog 144 ti144 := ⟨Go.Proofs.Try.underlying144, ⟨_, _, rfl, rfl, rfl, rfl, rfl⟩, rfl, rfl, .inl rfl, by decide⟩
def ti145 : TI := ⟨.func #[58, 72] #[58] false, 1, 8, [.nilfn], []⟩
theorem tok145 : TOK Go.Proofs.Try.prog 145 ti145 := ⟨Go.Proofs.Try.underlying145, ⟨_, _, rfl, rfl, rfl, rfl, rfl⟩, rfl, rfl, .inl rfl, by decide⟩
def ti146 : TI := ⟨.func #[61, 61, 3] #[61] false, 1, 8, [.nilfn], []⟩
theorem tok146 : TOK Go.Proofs.Try.prog 146 ti146 := ⟨Go.Proofs.Try.underlying146, ⟨_, _, rfl, rfl, rfl, rfl, rfl⟩, rfl, rfl, .inl rfl, by decide⟩
def ti147 : TI := ⟨.func #[58] #[58] false, 1, 8, [.nilfn], []⟩
theorem tok147 : TOK Go.Proofs.Try.prog 147 ti147 := ⟨Go.Proofs.Try.underlying147, ⟨_, _, rfl, rfl, rfl, rfl, rfl⟩, rfl, rfl, .inl rfl, by decide⟩
def ti148 : TI := ⟨.func #[3, 150] #[61] false, 1, 8, [.nilfn], []⟩
theorem tok148 : TOK Go.Proofs.Try.prog 148 ti148 := ⟨Go.Proofs.Try.underlying148, ⟨_, _, rfl, rfl, rfl, rfl, rfl⟩, rfl, rfl, .inl rfl, by decide⟩
def ti149 : TI := ⟨.func #[3] #[61] false, 1, 8, [.nilfn], []⟩
theorem tok149 : TOK Go.Proofs.Try.prog 149 ti149 := ⟨Go.Proofs.Try.underlying149, ⟨_, _, rfl, rfl, rfl, rfl, rfl⟩, rfl, rfl, .inl rfl, by decide⟩
def ti150 : TI := ⟨.func #[3, 3] #[61] false, 1, 8, [.nilfn], []⟩
theorem tok150 : TOK Go.Proofs.Try.prog 150 ti150 := ⟨Go.Proofs.Try.underlying150, ⟨_, _, rfl, rfl, rfl, rfl, rfl⟩, rfl, rfl, .inl rfl, by decide⟩
def ti152 : TI := ⟨.func #[27, 30, 129, 3] #[55, 39] false, 1, 8, [.nilfn], []⟩
theorem tok152 : TOK Go.Proofs.Try.prog 152 ti152 := ⟨Go.Proofs.Try.underlying152, ⟨_, _, rfl, rfl, rfl, rfl, rfl⟩, rfl, rfl, .inl rfl, by decide⟩
def ti153 : TI := ⟨.func #[9, 53] #[55] true, 1, 8, [.nilfn], []⟩
theorem tok153 : TOK Go.Proofs.Try.prog 153 ti153 := ⟨Go.Proofs.Try.underlying153, ⟨_, _, rfl, rfl, rfl, rfl, rfl⟩, rfl, rfl, .inl rfl, by decide⟩
def ti154 : TI := ⟨.func #[39] #[55] false, 1, 8, [.nilfn], []⟩
theorem tok154 : TOK Go.Proofs.Try.prog 154 ti154 := ⟨Go.Proofs.Try.underlying154, ⟨_, _, rfl, rfl, rfl, rfl, rfl⟩, rfl, rfl, .inl rfl, by decide⟩
def ti155 : TI := ⟨.pointer 157, 1, 8, [.nilp], []⟩
theorem tok155 : TOK Go.Proofs.Try.prog 155 ti155 := ⟨Go.Proofs.Try.underlying155, ⟨_, _, rfl, rfl, rfl, rfl, rfl⟩, rfl, rfl, .inl rfl, by decide⟩
def ti156 : TI := ⟨.struct #[{ name := "ctx", type := 27, offset := 0, embedded := false, tag := "", pkgPath := "loop.example/g00091/impl", byteOffset := 0 }, { name := "terms", type := 134, offset := 1, embedded := false, tag := "", pkgPath := "loop.example/g00091/impl", byteOffset := 24 }, { name := "told", type := 134, offset := 2, embedded := false, tag := "", pkgPath := "loop.example/g00091/impl", byteOffset := 48 }], 3, 72, [.imm 0 3 true [], .imm 0 1 true [], .imm 0 1 true []], [(0, 1), (1, 1), (2, 1)]⟩
theorem tok156 : TOK Go.Proofs.Try.prog 156 ti156 := ⟨Go.Proofs.Try.underlying156, ⟨_, _, rfl, rfl, rfl, rfl, rfl⟩, rfl, rfl, .inr ⟨_, rfl, ⟨⟨_, rfl, rfl, rfl, by decide⟩, ⟨_, rfl, rfl, rfl, by decide⟩, ⟨_, rfl, rfl, rfl, by decide⟩, trivial⟩, rfl⟩, by decide⟩
def ti157 : TI := ⟨.struct #[{ name := "ctx", type := 27, offset := 0, embedded := false, tag := "", pkgPath := "loop.example/g00091/impl", byteOffset := 0 }, { name := "terms", type := 134, offset := 1, embedded := false, tag := "", pkgPath := "loop.example/g00091/impl", byteOffset := 24 }, { name := "told", type := 134, offset := 2, embedded := false, tag := "", pkgPath := "loop.example/g00091/impl", byteOffset := 48 }], 3, 72, [.imm 0 3 true [], .imm 0 1 true [], .imm 0 1 true []], [(0, 1), (1, 1), (2, 1)]⟩
theorem tok157 : TOK Go.Proofs.Try.prog 157 ti157 := ⟨Go.Proofs.Try.underlying157, ⟨_, _, rfl, rfl, rfl, rfl, rfl⟩, rfl, rfl, .inr ⟨_, rfl, ⟨⟨_, rfl, rfl, rfl, by decide⟩, ⟨_, rfl, rfl, rfl, by decide⟩, ⟨_, rfl, rfl, rfl, by decide⟩, trivial⟩, rfl⟩, by decide⟩
def ti158 : TI := ⟨.func #[55, 55] #[55] false, 1, 8, [.nilfn], []⟩
theorem tok158 : TOK Go.Proofs.Try.prog 158 ti158 := ⟨Go.Proofs.Try.underlying158, ⟨_, _, rfl, rfl, rfl, rfl, rfl⟩, rfl, rfl, .inl rfl, by decide⟩
def ti159 : TI := ⟨.pointer 209, 1, 8, [.nilp], []⟩
theorem tok159 : TOK Go.Proofs.Try.prog 159 ti159 := ⟨Go.Proofs.Try.underlying159, ⟨_, _, rfl, rfl, rfl, rfl, rfl⟩, rfl, rfl, .inl rfl, by decide⟩
def ti160 : TI := ⟨.func #[86] #[159] false, 1, 8, [.nilfn], []⟩
theorem tok160 : TOK Go.Proofs.Try.prog 160 ti160 := ⟨Go.Proofs.Try.underlying160, ⟨_, _, rfl, rfl, rfl, rfl, rfl⟩, rfl, rfl, .inl rfl, by decide⟩
def ti161 : TI := ⟨.func #[] #[58] false, 1, 8, [.nilfn], []⟩
theorem tok161 : TOK Go.Proofs.Try.prog 161 ti161 := ⟨Go.Proofs.Try.underlying161, ⟨_, _, rfl, rfl, rfl, rfl, rfl⟩, rfl, rfl, .inl rfl, by decide⟩
def ti163 : TI := ⟨.func #[58, 3] #[61, 72] false, 1, 8, [.nilfn], []⟩
theorem tok163 : TOK Go.Proofs.Try.prog 163 ti163 := ⟨Go.Proofs.Try.underlying163, ⟨_, _, rfl, rfl, rfl, rfl, rfl⟩, rfl, rfl, .inl rfl, by decide⟩
def ti164 : TI := ⟨.func #[3] #[3] false, 1, 8, [.nilfn], []⟩
theorem tok164 : TOK Go.Proofs.Try.prog 164 ti164 := ⟨Go.Proofs.Try.underlying164, ⟨_, _, rfl, rfl, rfl, rfl, rfl⟩, rfl, rfl, .inl rfl, by decide⟩
def ti165 : TI := ⟨.func #[3] #[72] false, 1, 8, [.nilfn], []⟩
theorem tok165 : TOK Go.Proofs.Try.prog 165 ti165 := ⟨Go.Proofs.Try.underlying165, ⟨_, _, rfl, rfl, rfl, rfl, rfl⟩, rfl, rfl, .inl rfl, by decide⟩
def ti166 : TI := ⟨.func #[] #[27] false, 1, 8, [.nilfn], []⟩
theorem tok166 : TOK Go.Proofs.Try.prog 166 ti166 := ⟨Go.Proofs.Try.underlying166, ⟨_, _, rfl, rfl, rfl, rfl, rfl⟩, rfl, rfl, .inl rfl, by decide⟩
def ti168 : TI := ⟨.func #[27, 3] #[30, 39] false, 1, 8, [.nilfn], []⟩
theorem tok168 : TOK Go.Proofs.Try.prog 168 ti168 := ⟨Go.Proofs.Try.underlying168, ⟨_, _, rfl, rfl, rfl, rfl, rfl⟩, rfl, rfl, .inl rfl, by decide⟩
def ti169 : TI := ⟨.func #[30] #[30] false, 1, 8, [.nilfn], []⟩
theorem tok169 : TOK Go.Proofs.Try.prog 169 ti169 := ⟨Go.Proofs.Try.underlying169, ⟨_, _, rfl, rfl, rfl, rfl, rfl⟩, rfl, rfl, .inl rfl, by decide⟩
def ti170 : TI := ⟨.func #[30, 30, 3] #[30] false, 1, 8, [.nilfn], []⟩
theorem tok170 : TOK Go.Proofs.Try.prog 170 ti170 := ⟨Go.Proofs.Try.underlying170, ⟨_, _, rfl, rfl, rfl, rfl, rfl⟩, rfl, rfl, .inl rfl, by decide⟩
def ti171 : TI := ⟨.func #[30, 3, 3] #[30] false, 1, 8, [.nilfn], []⟩
theorem tok171 : TOK Go.Proofs.Try.prog 171 ti171 := ⟨Go.Proofs.Try.underlying171, ⟨_, _, rfl, rfl, rfl, rfl, rfl⟩, rfl, rfl, .inl rfl, by decide⟩
def ti172 : TI := ⟨.pointer 215, 1, 8, [.nilp], []⟩
theorem tok172 : TOK Go.Proofs.Try.prog 172 ti172 := ⟨Go.Proofs.Try.underlying172, ⟨_, _, rfl, rfl, rfl, rfl, rfl⟩, rfl, rfl, .inl rfl, by decide⟩
def ti173 : TI := ⟨.func #[] #[172] false, 1, 8, [.nilfn], []⟩
theorem tok173 : TOK Go.Proofs.Try.prog 173 ti173 := ⟨Go.Proofs.Try.underlying173, ⟨_, _, rfl, rfl, rfl, rfl, rfl⟩, rfl, rfl, .inl rfl, by decide⟩
def ti174 : TI := ⟨.func #[30, 30] #[30] false, 1, 8, [.nilfn], []⟩
theorem tok174 : TOK Go.Proofs.Try.prog 174 ti174 := ⟨Go.Proofs.Try.underlying174, ⟨_, _, rfl, rfl, rfl, rfl, rfl⟩, rfl, rfl, .inl rfl, by decide⟩
def ti175 : TI := ⟨.func #[3] #[30] false, 1, 8, [.nilfn], []⟩
theorem tok175 : TOK Go.Proofs.Try.prog 175 ti175 := ⟨Go.Proofs.Try.underlying175, ⟨_, _, rfl, rfl, rfl, rfl, rfl⟩, rfl, rfl, .inl rfl, by decide⟩
def ti176 : TI := ⟨.func #[39] #[4] false, 1, 8, [.nilfn], []⟩
theorem tok176 : TOK Go.Proofs.Try.prog 176 ti176 := ⟨Go.Proofs.Try.underlying176, ⟨_, _, rfl, rfl, rfl, rfl, rfl⟩, rfl, rfl, .inl rfl, by decide⟩
def ti177 : TI := ⟨.func #[27, 39] #[27] false, 1, 8, [.nilfn], []⟩
theorem tok177 : TOK Go.Proofs.Try.prog 177 ti177 := ⟨Go.Proofs.Try.underlying177, ⟨_, _, rfl, rfl, rfl, rfl, rfl⟩, rfl, rfl, .inl rfl, by decide⟩
def ti178 : TI := ⟨.func #[39, 39] #[39] false, 1, 8, [.nilfn], []⟩
theorem tok178 : TOK Go.Proofs.Try.prog 178 ti178 := ⟨Go.Proofs.Try.underlying178, ⟨_, _, rfl, rfl, rfl, rfl, rfl⟩, rfl, rfl, .inl rfl, by decide⟩
def ti179 : TI := ⟨.func #[30] #[3] false, 1, 8, [.nilfn], []⟩
theorem tok179 : TOK Go.Proofs.Try.prog 179 ti179 := ⟨Go.Proofs.Try.underlying179, ⟨_, _, rfl, rfl, rfl, rfl, rfl⟩, rfl, rfl, .inl rfl, by decide⟩
def ti180 : TI := ⟨.func #[129] #[3] false, 1, 8, [.nilfn], []⟩
theorem tok180 : TOK Go.Proofs.Try.prog 180 ti180 := ⟨Go.Proofs.Try.underlying180, ⟨_, _, rfl, rfl, rfl, rfl, rfl⟩, rfl, rfl, .inl rfl, by decide⟩
def ti181 : TI := ⟨.func #[27, 176] #[4] false, 1, 8, [.nilfn], []⟩
theorem tok181 : TOK Go.Proofs.Try.prog 181 ti181 := ⟨Go.Proofs.Try.underlying181, ⟨_, _, rfl, rfl, rfl, rfl, rfl⟩, rfl, rfl, .inl rfl, by decide⟩
def ti182 : TI := ⟨.func #[3, 3] #[] false, 1, 8, [.nilfn], []⟩
theorem tok182 : TOK Go.Proofs.Try.prog 182 ti182 := ⟨Go.Proofs.Try.underlying182, ⟨_, _, rfl, rfl, rfl, rfl, rfl⟩, rfl, rfl, .inl rfl, by decide⟩
def ti183 : TI := ⟨.func #[27] #[27] false, 1, 8, [.nilfn], []⟩
theorem tok183 : TOK Go.Proofs.Try.prog 183 ti183 := ⟨Go.Proofs.Try.underlying183, ⟨_, _, rfl, rfl, rfl, rfl, rfl⟩, rfl, rfl, .inl rfl, by decide⟩
def ti184 : TI := ⟨.func #[] #[3] false, 1, 8, [.nilfn], []⟩
theorem tok184 : TOK Go.Proofs.Try.prog 184 ti184 := ⟨Go.Proofs.Try.underlying184, ⟨_, _, rfl, rfl, rfl, rfl, rfl⟩, rfl, rfl, .inl rfl, by decide⟩
def ti185 : TI := ⟨.func #[3, 53] #[55] false, 1, 8, [.nilfn], []⟩
theorem tok185 : TOK Go.Proofs.Try.prog 185 ti185 := ⟨Go.Proofs.Try.underlying185, ⟨_, _, rfl, rfl, rfl, rfl, rfl⟩, rfl, rfl, .inl rfl, by decide⟩
def ti186 : TI := ⟨.func #[72] #[55] false, 1, 8, [.nilfn], []⟩
theorem tok186 : TOK Go.Proofs.Try.prog 186 ti186 := ⟨Go.Proofs.Try.underlying186, ⟨_, _, rfl, rfl, rfl, rfl, rfl⟩, rfl, rfl, .inl rfl, by decide⟩
def ti187 : TI := ⟨.func #[9, 53] #[55] false, 1, 8, [.nilfn], []⟩
theorem tok187 : TOK Go.Proofs.Try.prog 187 ti187 := ⟨Go.Proofs.Try.underlying187, ⟨_, _, rfl, rfl, rfl, rfl, rfl⟩, rfl, rfl, .inl rfl, by decide⟩
def ti188 : TI := ⟨.slice 9, 1, 24, [.imm 0 1 true []], []⟩
theorem tok188 : TOK Go.Proofs.Try.prog 188 ti188 := ⟨Go.Proofs.Try.underlying188, ⟨_, _, rfl, rfl, rfl, rfl, rfl⟩, rfl, rfl, .inl rfl, by decide⟩
def ti189 : TI := ⟨.func #[] #[188] false, 1, 8, [.nilfn], []⟩
theorem tok189 : TOK Go.Proofs.Try.prog 189 ti189 := ⟨Go.Proofs.Try.underlying189, ⟨_, _, rfl, rfl, rfl, rfl, rfl⟩, rfl, rfl, .inl rfl, by decide⟩
def ti190 : TI := ⟨.func #[3, 53] #[55] true, 1, 8, [.nilfn], []⟩
theorem tok190 : TOK Go.Proofs.Try.prog 190 ti190 := ⟨Go.Proofs.Try.underlying190, ⟨_, _, rfl, rfl, rfl, rfl, rfl⟩, rfl, rfl, .inl rfl, by decide⟩
def ti191 : TI := ⟨.func #[58] #[72] false, 1, 8, [.nilfn], []⟩
theorem tok191 : TOK Go.Proofs.Try.prog 191 ti191 := ⟨Go.Proofs.Try.underlying191, ⟨_, _, rfl, rfl, rfl, rfl, rfl⟩, rfl, rfl, .inl rfl, by decide⟩
def ti192 : TI := ⟨.struct #[{ name := "forms", type := 3, offset := 0, embedded := false, tag := "", pkgPath := "loop.example/g00091/impl", byteOffset := 0 }, { name := "kids", type := 3, offset := 1, embedded := false, tag := "", pkgPath := "loop.example/g00091/impl", byteOffset := 8 }, { name := "name", type := 9, offset := 2, embedded := false, tag := "", pkgPath := "loop.example/g00091/impl", byteOffset := 16 }, { name := "needs", type := 147, offset := 3, embedded := false, tag := "", pkgPath := "loop.example/g00091/impl", byteOffset := 32 }, { name := "proves", type := 191, offset := 4, embedded := false, tag := "", pkgPath := "loop.example/g00091/impl", byteOffset := 40 }], 5, 48, [.int .i64 0, .int .i64 0, .str ⟨#[]⟩, .nilfn, .nilfn], [(0, 1), (1, 1), (2, 1), (3, 1), (4, 1)]⟩
theorem tok192 : TOK Go.Proofs.Try.prog 192 ti192 := ⟨Go.Proofs.Try.underlying192, ⟨_, _, rfl, rfl, rfl, rfl, rfl⟩, rfl, rfl, .inr ⟨_, rfl, ⟨⟨_, rfl, rfl, rfl, by decide⟩, ⟨_, rfl, rfl, rfl, by decide⟩, ⟨_, rfl, rfl, rfl, by decide⟩, ⟨_, rfl, rfl, rfl, by decide⟩, ⟨_, rfl, rfl, rfl, by decide⟩, trivial⟩, rfl⟩, by decide⟩
def ti193 : TI := ⟨.struct #[{ name := "forms", type := 3, offset := 0, embedded := false, tag := "", pkgPath := "loop.example/g00091/impl", byteOffset := 0 }, { name := "kids", type := 3, offset := 1, embedded := false, tag := "", pkgPath := "loop.example/g00091/impl", byteOffset := 8 }, { name := "name", type := 9, offset := 2, embedded := false, tag := "", pkgPath := "loop.example/g00091/impl", byteOffset := 16 }, { name := "needs", type := 147, offset := 3, embedded := false, tag := "", pkgPath := "loop.example/g00091/impl", byteOffset := 32 }, { name := "proves", type := 191, offset := 4, embedded := false, tag := "", pkgPath := "loop.example/g00091/impl", byteOffset := 40 }], 5, 48, [.int .i64 0, .int .i64 0, .str ⟨#[]⟩, .nilfn, .nilfn], [(0, 1), (1, 1), (2, 1), (3, 1), (4, 1)]⟩
theorem tok193 : TOK Go.Proofs.Try.prog 193 ti193 := ⟨Go.Proofs.Try.underlying193, ⟨_, _, rfl, rfl, rfl, rfl, rfl⟩, rfl, rfl, .inr ⟨_, rfl, ⟨⟨_, rfl, rfl, rfl, by decide⟩, ⟨_, rfl, rfl, rfl, by decide⟩, ⟨_, rfl, rfl, rfl, by decide⟩, ⟨_, rfl, rfl, rfl, by decide⟩, ⟨_, rfl, rfl, rfl, by decide⟩, trivial⟩, rfl⟩, by decide⟩
def ti195 : TI := ⟨.func #[3] #[193, 4] false, 1, 8, [.nilfn], []⟩
theorem tok195 : TOK Go.Proofs.Try.prog 195 ti195 := ⟨Go.Proofs.Try.underlying195, ⟨_, _, rfl, rfl, rfl, rfl, rfl⟩, rfl, rfl, .inl rfl, by decide⟩
def ti196 : TI := ⟨.func #[3] #[9] false, 1, 8, [.nilfn], []⟩
theorem tok196 : TOK Go.Proofs.Try.prog 196 ti196 := ⟨Go.Proofs.Try.underlying196, ⟨_, _, rfl, rfl, rfl, rfl, rfl⟩, rfl, rfl, .inl rfl, by decide⟩
def ti197 : TI := ⟨.func #[129, 3] #[129] false, 1, 8, [.nilfn], []⟩
theorem tok197 : TOK Go.Proofs.Try.prog 197 ti197 := ⟨Go.Proofs.Try.underlying197, ⟨_, _, rfl, rfl, rfl, rfl, rfl⟩, rfl, rfl, .inl rfl, by decide⟩
def ti198 : TI := ⟨.func #[3, 3] #[55] false, 1, 8, [.nilfn], []⟩
theorem tok198 : TOK Go.Proofs.Try.prog 198 ti198 := ⟨Go.Proofs.Try.underlying198, ⟨_, _, rfl, rfl, rfl, rfl, rfl⟩, rfl, rfl, .inl rfl, by decide⟩
def ti199 : TI := ⟨.func #[3] #[134] false, 1, 8, [.nilfn], []⟩
theorem tok199 : TOK Go.Proofs.Try.prog 199 ti199 := ⟨Go.Proofs.Try.underlying199, ⟨_, _, rfl, rfl, rfl, rfl, rfl⟩, rfl, rfl, .inl rfl, by decide⟩
def ti200 : TI := ⟨.func #[72] #[4] false, 1, 8, [.nilfn], []⟩
theorem tok200 : TOK Go.Proofs.Try.prog 200 ti200 := ⟨Go.Proofs.Try.underlying200, ⟨_, _, rfl, rfl, rfl, rfl, rfl⟩, rfl, rfl, .inl rfl, by decide⟩
def ti201 : TI := ⟨.func #[3, 72, 72] #[72] false, 1, 8, [.nilfn], []⟩
theorem tok201 : TOK Go.Proofs.Try.prog 201 ti201 := ⟨Go.Proofs.Try.underlying201, ⟨_, _, rfl, rfl, rfl, rfl, rfl⟩, rfl, rfl, .inl rfl, by decide⟩
def ti202 : TI := ⟨.func #[61] #[3] false, 1, 8, [.nilfn], []⟩
theorem tok202 : TOK Go.Proofs.Try.prog 202 ti202 := ⟨Go.Proofs.Try.underlying202, ⟨_, _, rfl, rfl, rfl, rfl, rfl⟩, rfl, rfl, .inl rfl, by decide⟩
def ti203 : TI := ⟨.func #[58, 200] #[4] false, 1, 8, [.nilfn], []⟩
theorem tok203 : TOK Go.Proofs.Try.prog 203 ti203 := ⟨Go.Proofs.Try.underlying203, ⟨_, _, rfl, rfl, rfl, rfl, rfl⟩, rfl, rfl, .inl rfl, by decide⟩
def ti204 : TI := ⟨.func #[61, 3, 3] #[61] false, 1, 8, [.nilfn], []⟩
theorem tok204 : TOK Go.Proofs.Try.prog 204 ti204 := ⟨Go.Proofs.Try.underlying204, ⟨_, _, rfl, rfl, rfl, rfl, rfl⟩, rfl, rfl, .inl rfl, by decide⟩
def ti205 : TI := ⟨.func #[3, 207] #[4] false, 1, 8, [.nilfn], []⟩
theorem tok205 : TOK Go.Proofs.Try.prog 205 ti205 := ⟨Go.Proofs.Try.underlying205, ⟨_, _, rfl, rfl, rfl, rfl, rfl⟩, rfl, rfl, .inl rfl, by decide⟩
def ti206 : TI := ⟨.pointer 55, 1, 8, [.nilp], []⟩
theorem tok206 : TOK Go.Proofs.Try.prog 206 ti206 := ⟨Go.Proofs.Try.underlying206, ⟨_, _, rfl, rfl, rfl, rfl, rfl⟩, rfl, rfl, .inl rfl, by decide⟩
def ti207 : TI := ⟨.func #[206, 3] #[4] false, 1, 8, [.nilfn], []⟩
theorem tok207 : TOK Go.Proofs.Try.prog 207 ti207 := ⟨Go.Proofs.Try.underlying207, ⟨_, _, rfl, rfl, rfl, rfl, rfl⟩, rfl, rfl, .inl rfl, by decide⟩
def ti208 : TI := ⟨.struct #[{ name := "code", type := 86, offset := 0, embedded := false, tag := "", pkgPath := "loop.example/g00091/spec", byteOffset := 0 }, { name := "at", type := 3, offset := 1, embedded := false, tag := "", pkgPath := "loop.example/g00091/spec", byteOffset := 24 }, { name := "seed", type := 3, offset := 2, embedded := false, tag := "", pkgPath := "loop.example/g00091/spec", byteOffset := 32 }], 3, 40, [.imm 0 1 true [], .int .i64 0, .int .i64 0], [(0, 1), (1, 1), (2, 1)]⟩
theorem tok208 : TOK Go.Proofs.Try.prog 208 ti208 := ⟨Go.Proofs.Try.underlying208, ⟨_, _, rfl, rfl, rfl, rfl, rfl⟩, rfl, rfl, .inr ⟨_, rfl, ⟨⟨_, rfl, rfl, rfl, by decide⟩, ⟨_, rfl, rfl, rfl, by decide⟩, ⟨_, rfl, rfl, rfl, by decide⟩, trivial⟩, rfl⟩, by decide⟩
def ti209 : TI := ⟨.struct #[{ name := "code", type := 86, offset := 0, embedded := false, tag := "", pkgPath := "loop.example/g00091/spec", byteOffset := 0 }, { name := "at", type := 3, offset := 1, embedded := false, tag := "", pkgPath := "loop.example/g00091/spec", byteOffset := 24 }, { name := "seed", type := 3, offset := 2, embedded := false, tag := "", pkgPath := "loop.example/g00091/spec", byteOffset := 32 }], 3, 40, [.imm 0 1 true [], .int .i64 0, .int .i64 0], [(0, 1), (1, 1), (2, 1)]⟩
theorem tok209 : TOK Go.Proofs.Try.prog 209 ti209 := ⟨Go.Proofs.Try.underlying209, ⟨_, _, rfl, rfl, rfl, rfl, rfl⟩, rfl, rfl, .inr ⟨_, rfl, ⟨⟨_, rfl, rfl, rfl, by decide⟩, ⟨_, rfl, rfl, rfl, by decide⟩, ⟨_, rfl, rfl, rfl, by decide⟩, trivial⟩, rfl⟩, by decide⟩
def ti211 : TI := ⟨.func #[3] #[3, 3] false, 1, 8, [.nilfn], []⟩
theorem tok211 : TOK Go.Proofs.Try.prog 211 ti211 := ⟨Go.Proofs.Try.underlying211, ⟨_, _, rfl, rfl, rfl, rfl, rfl⟩, rfl, rfl, .inl rfl, by decide⟩
def ti212 : TI := ⟨.func #[3] #[39] false, 1, 8, [.nilfn], []⟩
theorem tok212 : TOK Go.Proofs.Try.prog 212 ti212 := ⟨Go.Proofs.Try.underlying212, ⟨_, _, rfl, rfl, rfl, rfl, rfl⟩, rfl, rfl, .inl rfl, by decide⟩
def ti213 : TI := ⟨.func #[] #[39] false, 1, 8, [.nilfn], []⟩
theorem tok213 : TOK Go.Proofs.Try.prog 213 ti213 := ⟨Go.Proofs.Try.underlying213, ⟨_, _, rfl, rfl, rfl, rfl, rfl⟩, rfl, rfl, .inl rfl, by decide⟩
def ti214 : TI := ⟨.struct #[{ name := "left", type := 3, offset := 0, embedded := false, tag := "", pkgPath := "loop.example/g00091/impl", byteOffset := 0 }, { name := "omit", type := 4, offset := 1, embedded := false, tag := "", pkgPath := "loop.example/g00091/impl", byteOffset := 8 }], 2, 16, [.int .i64 0, .bool false], [(0, 1), (1, 1)]⟩
theorem tok214 : TOK Go.Proofs.Try.prog 214 ti214 := ⟨Go.Proofs.Try.underlying214, ⟨_, _, rfl, rfl, rfl, rfl, rfl⟩, rfl, rfl, .inr ⟨_, rfl, ⟨⟨_, rfl, rfl, rfl, by decide⟩, ⟨_, rfl, rfl, rfl, by decide⟩, trivial⟩, rfl⟩, by decide⟩
def ti215 : TI := ⟨.struct #[{ name := "left", type := 3, offset := 0, embedded := false, tag := "", pkgPath := "loop.example/g00091/impl", byteOffset := 0 }, { name := "omit", type := 4, offset := 1, embedded := false, tag := "", pkgPath := "loop.example/g00091/impl", byteOffset := 8 }], 2, 16, [.int .i64 0, .bool false], [(0, 1), (1, 1)]⟩
theorem tok215 : TOK Go.Proofs.Try.prog 215 ti215 := ⟨Go.Proofs.Try.underlying215, ⟨_, _, rfl, rfl, rfl, rfl, rfl⟩, rfl, rfl, .inr ⟨_, rfl, ⟨⟨_, rfl, rfl, rfl, by decide⟩, ⟨_, rfl, rfl, rfl, by decide⟩, trivial⟩, rfl⟩, by decide⟩
def ti216 : TI := ⟨.func #[] #[4] false, 1, 8, [.nilfn], []⟩
theorem tok216 : TOK Go.Proofs.Try.prog 216 ti216 := ⟨Go.Proofs.Try.underlying216, ⟨_, _, rfl, rfl, rfl, rfl, rfl⟩, rfl, rfl, .inl rfl, by decide⟩
def ti217 : TI := ⟨.func #[3, 218] #[30] false, 1, 8, [.nilfn], []⟩
theorem tok217 : TOK Go.Proofs.Try.prog 217 ti217 := ⟨Go.Proofs.Try.underlying217, ⟨_, _, rfl, rfl, rfl, rfl, rfl⟩, rfl, rfl, .inl rfl, by decide⟩
def ti218 : TI := ⟨.func #[3, 3] #[30] false, 1, 8, [.nilfn], []⟩
theorem tok218 : TOK Go.Proofs.Try.prog 218 ti218 := ⟨Go.Proofs.Try.underlying218, ⟨_, _, rfl, rfl, rfl, rfl, rfl⟩, rfl, rfl, .inl rfl, by decide⟩
def ti219 : TI := ⟨.func #[27, 176] #[3] false, 1, 8, [.nilfn], []⟩
theorem tok219 : TOK Go.Proofs.Try.prog 219 ti219 := ⟨Go.Proofs.Try.underlying219, ⟨_, _, rfl, rfl, rfl, rfl, rfl⟩, rfl, rfl, .inl rfl, by decide⟩
def ti220 : TI := ⟨.pointer 30, 1, 8, [.nilp], []⟩
theorem tok220 : TOK Go.Proofs.Try.prog 220 ti220 := ⟨Go.Proofs.Try.underlying220, ⟨_, _, rfl, rfl, rfl, rfl, rfl⟩, rfl, rfl, .inl rfl, by decide⟩
def ti221 : TI := ⟨.func #[27, 27, 43] #[4] false, 1, 8, [.nilfn], []⟩
theorem tok221 : TOK Go.Proofs.Try.prog 221 ti221 := ⟨Go.Proofs.Try.underlying221, ⟨_, _, rfl, rfl, rfl, rfl, rfl⟩, rfl, rfl, .inl rfl, by decide⟩
def ti222 : TI := ⟨.func #[72, 72] #[72] false, 1, 8, [.nilfn], []⟩
theorem tok222 : TOK Go.Proofs.Try.prog 222 ti222 := ⟨Go.Proofs.Try.underlying222, ⟨_, _, rfl, rfl, rfl, rfl, rfl⟩, rfl, rfl, .inl rfl, by decide⟩
def ti223 : TI := ⟨.func #[] #[72] false, 1, 8, [.nilfn], []⟩
theorem tok223 : TOK Go.Proofs.Try.prog 223 ti223 := ⟨Go.Proofs.Try.underlying223, ⟨_, _, rfl, rfl, rfl, rfl, rfl⟩, rfl, rfl, .inl rfl, by decide⟩
def ti224 : TI := ⟨.func #[53] #[53] false, 1, 8, [.nilfn], []⟩
theorem tok224 : TOK Go.Proofs.Try.prog 224 ti224 := ⟨Go.Proofs.Try.underlying224, ⟨_, _, rfl, rfl, rfl, rfl, rfl⟩, rfl, rfl, .inl rfl, by decide⟩
def ti225 : TI := ⟨.func #[134] #[134] false, 1, 8, [.nilfn], []⟩
theorem tok225 : TOK Go.Proofs.Try.prog 225 ti225 := ⟨Go.Proofs.Try.underlying225, ⟨_, _, rfl, rfl, rfl, rfl, rfl⟩, rfl, rfl, .inl rfl, by decide⟩
def ti226 : TI := ⟨.func #[58, 200] #[3] false, 1, 8, [.nilfn], []⟩
theorem tok226 : TOK Go.Proofs.Try.prog 226 ti226 := ⟨Go.Proofs.Try.underlying226, ⟨_, _, rfl, rfl, rfl, rfl, rfl⟩, rfl, rfl, .inl rfl, by decide⟩
def ti227 : TI := ⟨.func #[58, 58, 76] #[4] false, 1, 8, [.nilfn], []⟩
theorem tok227 : TOK Go.Proofs.Try.prog 227 ti227 := ⟨Go.Proofs.Try.underlying227, ⟨_, _, rfl, rfl, rfl, rfl, rfl⟩, rfl, rfl, .inl rfl, by decide⟩
def ti228 : TI := ⟨.pointer 61, 1, 8, [.nilp], []⟩
theorem tok228 : TOK Go.Proofs.Try.prog 228 ti228 := ⟨Go.Proofs.Try.underlying228, ⟨_, _, rfl, rfl, rfl, rfl, rfl⟩, rfl, rfl, .inl rfl, by decide⟩
def ti229 : TI := ⟨.func #[] #[9] false, 1, 8, [.nilfn], []⟩
theorem tok229 : TOK Go.Proofs.Try.prog 229 ti229 := ⟨Go.Proofs.Try.underlying229, ⟨_, _, rfl, rfl, rfl, rfl, rfl⟩, rfl, rfl, .inl rfl, by decide⟩
def ti230 : TI := ⟨.struct #[{ name := "_interface", type := 17, offset := 0, embedded := false, tag := "", pkgPath := "runtime", byteOffset := 0 }, { name := "concrete", type := 17, offset := 1, embedded := false, tag := "", pkgPath := "runtime", byteOffset := 8 }, { name := "asserted", type := 17, offset := 2, embedded := false, tag := "", pkgPath := "runtime", byteOffset := 16 }, { name := "missingMethod", type := 9, offset := 3, embedded := false, tag := "", pkgPath := "runtime", byteOffset := 24 }], 4, 40, [.nilp, .nilp, .nilp, .str ⟨#[]⟩], [(0, 1), (1, 1), (2, 1), (3, 1)]⟩
theorem tok230 : TOK Go.Proofs.Try.prog 230 ti230 := ⟨Go.Proofs.Try.underlying230, ⟨_, _, rfl, rfl, rfl, rfl, rfl⟩, rfl, rfl, .inr ⟨_, rfl, ⟨⟨_, rfl, rfl, rfl, by decide⟩, ⟨_, rfl, rfl, rfl, by decide⟩, ⟨_, rfl, rfl, rfl, by decide⟩, ⟨_, rfl, rfl, rfl, by decide⟩, trivial⟩, rfl⟩, by decide⟩
def ti231 : TI := ⟨.struct #[{ name := "_interface", type := 17, offset := 0, embedded := false, tag := "", pkgPath := "runtime", byteOffset := 0 }, { name := "concrete", type := 17, offset := 1, embedded := false, tag := "", pkgPath := "runtime", byteOffset := 8 }, { name := "asserted", type := 17, offset := 2, embedded := false, tag := "", pkgPath := "runtime", byteOffset := 16 }, { name := "missingMethod", type := 9, offset := 3, embedded := false, tag := "", pkgPath := "runtime", byteOffset := 24 }], 4, 40, [.nilp, .nilp, .nilp, .str ⟨#[]⟩], [(0, 1), (1, 1), (2, 1), (3, 1)]⟩
theorem tok231 : TOK Go.Proofs.Try.prog 231 ti231 := ⟨Go.Proofs.Try.underlying231, ⟨_, _, rfl, rfl, rfl, rfl, rfl⟩, rfl, rfl, .inr ⟨_, rfl, ⟨⟨_, rfl, rfl, rfl, by decide⟩, ⟨_, rfl, rfl, rfl, by decide⟩, ⟨_, rfl, rfl, rfl, by decide⟩, ⟨_, rfl, rfl, rfl, by decide⟩, trivial⟩, rfl⟩, by decide⟩
def ti235 : TI := ⟨.int .u32, 1, 4, [.int .u32 0], []⟩
theorem tok235 : TOK Go.Proofs.Try.prog 235 ti235 := ⟨Go.Proofs.Try.underlying235, ⟨_, _, rfl, rfl, rfl, rfl, rfl⟩, rfl, rfl, .inl rfl, by decide⟩
def ti236 : TI := ⟨.int .u8, 1, 1, [.int .u8 0], []⟩
theorem tok236 : TOK Go.Proofs.Try.prog 236 ti236 := ⟨Go.Proofs.Try.underlying236, ⟨_, _, rfl, rfl, rfl, rfl, rfl⟩, rfl, rfl, .inl rfl, by decide⟩
def ti237 : TI := ⟨.int .u8, 1, 1, [.int .u8 0], []⟩
theorem tok237 : TOK Go.Proofs.Try.prog 237 ti237 := ⟨Go.Proofs.Try.underlying237, ⟨_, _, rfl, rfl, rfl, rfl, rfl⟩, rfl, rfl, .inl rfl, by decide⟩
def ti238 : TI := ⟨.func #[244, 244] #[4] false, 1, 8, [.nilfn], []⟩
theorem tok238 : TOK Go.Proofs.Try.prog 238 ti238 := ⟨Go.Proofs.Try.underlying238, ⟨_, _, rfl, rfl, rfl, rfl, rfl⟩, rfl, rfl, .inl rfl, by decide⟩
def ti239 : TI := ⟨.pointer 5, 1, 8, [.nilp], []⟩
theorem tok239 : TOK Go.Proofs.Try.prog 239 ti239 := ⟨Go.Proofs.Try.underlying239, ⟨_, _, rfl, rfl, rfl, rfl, rfl⟩, rfl, rfl, .inl rfl, by decide⟩
def ti240 : TI := ⟨.int .i32, 1, 4, [.int .i32 0], []⟩
theorem tok240 : TOK Go.Proofs.Try.prog 240 ti240 := ⟨Go.Proofs.Try.underlying240, ⟨_, _, rfl, rfl, rfl, rfl, rfl⟩, rfl, rfl, .inl rfl, by decide⟩
def ti241 : TI := ⟨.int .i32, 1, 4, [.int .i32 0], []⟩
theorem tok241 : TOK Go.Proofs.Try.prog 241 ti241 := ⟨Go.Proofs.Try.underlying241, ⟨_, _, rfl, rfl, rfl, rfl, rfl⟩, rfl, rfl, .inl rfl, by decide⟩
def ti242 : TI := ⟨.struct #[{ name := "Size_", type := 12, offset := 0, embedded := false, tag := "", pkgPath := "", byteOffset := 0 }, { name := "PtrBytes", type := 12, offset := 1, embedded := false, tag := "", pkgPath := "", byteOffset := 8 }, { name := "Hash", type := 235, offset := 2, embedded := false, tag := "", pkgPath := "", byteOffset := 16 }, { name := "TFlag", type := 236, offset := 3, embedded := false, tag := "", pkgPath := "", byteOffset := 20 }, { name := "Align_", type := 5, offset := 4, embedded := false, tag := "", pkgPath := "", byteOffset := 21 }, { name := "FieldAlign_", type := 5, offset := 5, embedded := false, tag := "", pkgPath := "", byteOffset := 22 }, { name := "Kind_", type := 237, offset := 6, embedded := false, tag := "", pkgPath := "", byteOffset := 23 }, { name := "Equal", type := 238, offset := 7, embedded := false, tag := "", pkgPath := "", byteOffset := 24 }, { name := "GCData", type := 239, offset := 8, embedded := false, tag := "", pkgPath := "", byteOffset := 32 }, { name := "Str", type := 240, offset := 9, embedded := false, tag := "", pkgPath := "", byteOffset := 40 }, { name := "PtrToThis", type := 241, offset := 10, embedded := false, tag := "", pkgPath := "", byteOffset := 44 }], 11, 48, [.int .u64 0, .int .u64 0, .int .u32 0, .int .u8 0, .int .u8 0, .int .u8 0, .int .u8 0, .nilfn, .nilp, .int .i32 0, .int .i32 0], [(0, 1), (1, 1), (2, 1), (3, 1), (4, 1), (5, 1), (6, 1), (7, 1), (8, 1), (9, 1), (10, 1)]⟩
theorem tok242 : TOK Go.Proofs.Try.prog 242 ti242 := ⟨Go.Proofs.Try.underlying242, ⟨_, _, rfl, rfl, rfl, rfl, rfl⟩, rfl, rfl, .inr ⟨_, rfl, ⟨⟨_, rfl, rfl, rfl, by decide⟩, ⟨_, rfl, rfl, rfl, by decide⟩, ⟨_, rfl, rfl, rfl, by decide⟩, ⟨_, rfl, rfl, rfl, by decide⟩, ⟨_, rfl, rfl, rfl, by decide⟩, ⟨_, rfl, rfl, rfl, by decide⟩, ⟨_, rfl, rfl, rfl, by decide⟩, ⟨_, rfl, rfl, rfl, by decide⟩, ⟨_, rfl, rfl, rfl, by decide⟩, ⟨_, rfl, rfl, rfl, by decide⟩, ⟨_, rfl, rfl, rfl, by decide⟩, trivial⟩, rfl⟩, by decide⟩
def ti243 : TI := ⟨.struct #[{ name := "Size_", type := 12, offset := 0, embedded := false, tag := "", pkgPath := "", byteOffset := 0 }, { name := "PtrBytes", type := 12, offset := 1, embedded := false, tag := "", pkgPath := "", byteOffset := 8 }, { name := "Hash", type := 235, offset := 2, embedded := false, tag := "", pkgPath := "", byteOffset := 16 }, { name := "TFlag", type := 236, offset := 3, embedded := false, tag := "", pkgPath := "", byteOffset := 20 }, { name := "Align_", type := 5, offset := 4, embedded := false, tag := "", pkgPath := "", byteOffset := 21 }, { name := "FieldAlign_", type := 5, offset := 5, embedded := false, tag := "", pkgPath := "", byteOffset := 22 }, { name := "Kind_", type := 237, offset := 6, embedded := false, tag := "", pkgPath := "", byteOffset := 23 }, { name := "Equal", type := 238, offset := 7, embedded := false, tag := "", pkgPath := "", byteOffset := 24 }, { name := "GCData", type := 239, offset := 8, embedded := false, tag := "", pkgPath := "", byteOffset := 32 }, { name := "Str", type := 240, offset := 9, embedded := false, tag := "", pkgPath := "", byteOffset := 40 }, { name := "PtrToThis", type := 241, offset := 10, embedded := false, tag := "", pkgPath := "", byteOffset := 44 }], 11, 48, [.int .u64 0, .int .u64 0, .int .u32 0, .int .u8 0, .int .u8 0, .int .u8 0, .int .u8 0, .nilfn, .nilp, .int .i32 0, .int .i32 0], [(0, 1), (1, 1), (2, 1), (3, 1), (4, 1), (5, 1), (6, 1), (7, 1), (8, 1), (9, 1), (10, 1)]⟩
theorem tok243 : TOK Go.Proofs.Try.prog 243 ti243 := ⟨Go.Proofs.Try.underlying243, ⟨_, _, rfl, rfl, rfl, rfl, rfl⟩, rfl, rfl, .inr ⟨_, rfl, ⟨⟨_, rfl, rfl, rfl, by decide⟩, ⟨_, rfl, rfl, rfl, by decide⟩, ⟨_, rfl, rfl, rfl, by decide⟩, ⟨_, rfl, rfl, rfl, by decide⟩, ⟨_, rfl, rfl, rfl, by decide⟩, ⟨_, rfl, rfl, rfl, by decide⟩, ⟨_, rfl, rfl, rfl, by decide⟩, ⟨_, rfl, rfl, rfl, by decide⟩, ⟨_, rfl, rfl, rfl, by decide⟩, ⟨_, rfl, rfl, rfl, by decide⟩, ⟨_, rfl, rfl, rfl, by decide⟩, trivial⟩, rfl⟩, by decide⟩

def Γ : TTab := [(1, ti1), (2, ti2), (3, ti3), (4, ti4), (5, ti5), (6, ti6), (7, ti7), (8, ti8), (9, ti9), (10, ti10), (11, ti11), (12, ti12), (13, ti13), (14, ti14), (15, ti15), (16, ti16), (17, ti17), (18, ti18), (19, ti19), (20, ti20), (21, ti21), (22, ti22), (23, ti23), (24, ti24), (25, ti25), (26, ti26), (27, ti27), (28, ti28), (29, ti29), (30, ti30), (32, ti32), (33, ti33), (34, ti34), (35, ti35), (36, ti36), (37, ti37), (38, ti38), (39, ti39), (41, ti41), (42, ti42), (43, ti43), (44, ti44), (45, ti45), (46, ti46), (47, ti47), (48, ti48), (49, ti49), (50, ti50), (51, ti51), (52, ti52), (53, ti53), (54, ti54), (55, ti55), (57, ti57), (58, ti58), (59, ti59), (60, ti60), (61, ti61), (62, ti62), (63, ti63), (64, ti64), (65, ti65), (66, ti66), (67, ti67), (68, ti68), (69, ti69), (70, ti70), (71, ti71), (72, ti72), (74, ti74), (75, ti75), (76, ti76), (77, ti77), (78, ti78), (79, ti79), (80, ti80), (82, ti82), (83, ti83), (85, ti85), (86, ti86), (88, ti88), (89, ti89), (90, ti90), (91, ti91), (93, ti93), (94, ti94), (95, ti95), (97, ti97), (98, ti98), (99, ti99), (101, ti101), (102, ti102), (103, ti103), (104, ti104), (105, ti105), (106, ti106), (107, ti107), (108, ti108), (109, ti109), (110, ti110), (111, ti111), (112, ti112), (113, ti113), (114, ti114), (115, ti115), (116, ti116), (117, ti117), (118, ti118), (119, ti119), (120, ti120), (121, ti121), (122, ti122), (123, ti123), (124, ti124), (125, ti125), (126, ti126), (127, ti127), (128, ti128), (129, ti129), (130, ti130), (131, ti131), (132, ti132), (133, ti133), (134, ti134), (135, ti135), (136, ti136), (137, ti137), (138, ti138), (139, ti139), (140, ti140), (141, ti141), (142, ti142), (143, ti143), (144, ti144), (145, ti145), (146, ti146), (147, ti147), (148, ti148), (149, ti149), (150, ti150), (152, ti152), (153, ti153), (154, ti154), (155, ti155), (156, ti156), (157, ti157), (158, ti158), (159, ti159), (160, ti160), (161, ti161), (163, ti163), (164, ti164), (165, ti165), (166, ti166), (168, ti168), (169, ti169), (170, ti170), (171, ti171), (172, ti172), (173, ti173), (174, ti174), (175, ti175), (176, ti176), (177, ti177), (178, ti178), (179, ti179), (180, ti180), (181, ti181), (182, ti182), (183, ti183), (184, ti184), (185, ti185), (186, ti186), (187, ti187), (188, ti188), (189, ti189), (190, ti190), (191, ti191), (192, ti192), (193, ti193), (195, ti195), (196, ti196), (197, ti197), (198, ti198), (199, ti199), (200, ti200), (201, ti201), (202, ti202), (203, ti203), (204, ti204), (205, ti205), (206, ti206), (207, ti207), (208, ti208), (209, ti209), (211, ti211), (212, ti212), (213, ti213), (214, ti214), (215, ti215), (216, ti216), (217, ti217), (218, ti218), (219, ti219), (220, ti220), (221, ti221), (222, ti222), (223, ti223), (224, ti224), (225, ti225), (226, ti226), (227, ti227), (228, ti228), (229, ti229), (230, ti230), (231, ti231), (235, ti235), (236, ti236), (237, ti237), (238, ti238), (239, ti239), (240, ti240), (241, ti241), (242, ti242), (243, ti243)]
theorem hG : GOK Go.Proofs.Try.prog Γ := GOK.cons tok1 (GOK.cons tok2 (GOK.cons tok3 (GOK.cons tok4 (GOK.cons tok5 (GOK.cons tok6 (GOK.cons tok7 (GOK.cons tok8 (GOK.cons tok9 (GOK.cons tok10 (GOK.cons tok11 (GOK.cons tok12 (GOK.cons tok13 (GOK.cons tok14 (GOK.cons tok15 (GOK.cons tok16 (GOK.cons tok17 (GOK.cons tok18 (GOK.cons tok19 (GOK.cons tok20 (GOK.cons tok21 (GOK.cons tok22 (GOK.cons tok23 (GOK.cons tok24 (GOK.cons tok25 (GOK.cons tok26 (GOK.cons tok27 (GOK.cons tok28 (GOK.cons tok29 (GOK.cons tok30 (GOK.cons tok32 (GOK.cons tok33 (GOK.cons tok34 (GOK.cons tok35 (GOK.cons tok36 (GOK.cons tok37 (GOK.cons tok38 (GOK.cons tok39 (GOK.cons tok41 (GOK.cons tok42 (GOK.cons tok43 (GOK.cons tok44 (GOK.cons tok45 (GOK.cons tok46 (GOK.cons tok47 (GOK.cons tok48 (GOK.cons tok49 (GOK.cons tok50 (GOK.cons tok51 (GOK.cons tok52 (GOK.cons tok53 (GOK.cons tok54 (GOK.cons tok55 (GOK.cons tok57 (GOK.cons tok58 (GOK.cons tok59 (GOK.cons tok60 (GOK.cons tok61 (GOK.cons tok62 (GOK.cons tok63 (GOK.cons tok64 (GOK.cons tok65 (GOK.cons tok66 (GOK.cons tok67 (GOK.cons tok68 (GOK.cons tok69 (GOK.cons tok70 (GOK.cons tok71 (GOK.cons tok72 (GOK.cons tok74 (GOK.cons tok75 (GOK.cons tok76 (GOK.cons tok77 (GOK.cons tok78 (GOK.cons tok79 (GOK.cons tok80 (GOK.cons tok82 (GOK.cons tok83 (GOK.cons tok85 (GOK.cons tok86 (GOK.cons tok88 (GOK.cons tok89 (GOK.cons tok90 (GOK.cons tok91 (GOK.cons tok93 (GOK.cons tok94 (GOK.cons tok95 (GOK.cons tok97 (GOK.cons tok98 (GOK.cons tok99 (GOK.cons tok101 (GOK.cons tok102 (GOK.cons tok103 (GOK.cons tok104 (GOK.cons tok105 (GOK.cons tok106 (GOK.cons tok107 (GOK.cons tok108 (GOK.cons tok109 (GOK.cons tok110 (GOK.cons tok111 (GOK.cons tok112 (GOK.cons tok113 (GOK.cons tok114 (GOK.cons tok115 (GOK.cons tok116 (GOK.cons tok117 (GOK.cons tok118 (GOK.cons tok119 (GOK.cons tok120 (GOK.cons tok121 (GOK.cons tok122 (GOK.cons tok123 (GOK.cons tok124 (GOK.cons tok125 (GOK.cons tok126 (GOK.cons tok127 (GOK.cons tok128 (GOK.cons tok129 (GOK.cons tok130 (GOK.cons tok131 (GOK.cons tok132 (GOK.cons tok133 (GOK.cons tok134 (GOK.cons tok135 (GOK.cons tok136 (GOK.cons tok137 (GOK.cons tok138 (GOK.cons tok139 (GOK.cons tok140 (GOK.cons tok141 (GOK.cons tok142 (GOK.cons tok143 (GOK.cons tok144 (GOK.cons tok145 (GOK.cons tok146 (GOK.cons tok147 (GOK.cons tok148 (GOK.cons tok149 (GOK.cons tok150 (GOK.cons tok152 (GOK.cons tok153 (GOK.cons tok154 (GOK.cons tok155 (GOK.cons tok156 (GOK.cons tok157 (GOK.cons tok158 (GOK.cons tok159 (GOK.cons tok160 (GOK.cons tok161 (GOK.cons tok163 (GOK.cons tok164 (GOK.cons tok165 (GOK.cons tok166 (GOK.cons tok168 (GOK.cons tok169 (GOK.cons tok170 (GOK.cons tok171 (GOK.cons tok172 (GOK.cons tok173 (GOK.cons tok174 (GOK.cons tok175 (GOK.cons tok176 (GOK.cons tok177 (GOK.cons tok178 (GOK.cons tok179 (GOK.cons tok180 (GOK.cons tok181 (GOK.cons tok182 (GOK.cons tok183 (GOK.cons tok184 (GOK.cons tok185 (GOK.cons tok186 (GOK.cons tok187 (GOK.cons tok188 (GOK.cons tok189 (GOK.cons tok190 (GOK.cons tok191 (GOK.cons tok192 (GOK.cons tok193 (GOK.cons tok195 (GOK.cons tok196 (GOK.cons tok197 (GOK.cons tok198 (GOK.cons tok199 (GOK.cons tok200 (GOK.cons tok201 (GOK.cons tok202 (GOK.cons tok203 (GOK.cons tok204 (GOK.cons tok205 (GOK.cons tok206 (GOK.cons tok207 (GOK.cons tok208 (GOK.cons tok209 (GOK.cons tok211 (GOK.cons tok212 (GOK.cons tok213 (GOK.cons tok214 (GOK.cons tok215 (GOK.cons tok216 (GOK.cons tok217 (GOK.cons tok218 (GOK.cons tok219 (GOK.cons tok220 (GOK.cons tok221 (GOK.cons tok222 (GOK.cons tok223 (GOK.cons tok224 (GOK.cons tok225 (GOK.cons tok226 (GOK.cons tok227 (GOK.cons tok228 (GOK.cons tok229 (GOK.cons tok230 (GOK.cons tok231 (GOK.cons tok235 (GOK.cons tok236 (GOK.cons tok237 (GOK.cons tok238 (GOK.cons tok239 (GOK.cons tok240 (GOK.cons tok241 (GOK.cons tok242 (GOK.cons tok243 (GOK.nil _)))))))))))))))))))))))))))))))))))))))))))))))))))))))))))))))))))))))))))))))))))))))))))))))))))))))))))))))))))))))))))))))))))))))))))))))))))))))))))))))))))))))))))))))))))))))))))))))))))))))))))))))))))))))))))))))))
theorem mixed : Go.Proofs.Try.prog.follows .mixedOrders = true := rfl

end Go.Am.Ytfjmdfipnmmboaa
