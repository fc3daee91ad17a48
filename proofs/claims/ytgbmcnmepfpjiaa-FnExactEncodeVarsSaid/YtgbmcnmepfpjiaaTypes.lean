/- The table of types of this program: what the abstract memory logic knows of each. Written by a program of ours. -/
import Derived.Test.YtgbmcnmepfpjiaaProg
import Derived.Test.YtgbmcnmepfpjiaaAm1
namespace Go.Am.Ytgbmcnmepfpjiaa
open Go Go.Am
set_option maxRecDepth 100000

def ti1 : TI := ⟨.func #[] #[] false, 1, 8, [.nilfn], []⟩
theorem tok1 : TOK Go.Proofs.Try.prog 1 ti1 := ⟨Go.Proofs.Try.underlying1, ⟨_, _, rfl, rfl, rfl, rfl, rfl⟩, rfl, rfl, .inl rfl, by decide⟩
def ti2 : TI := ⟨.int .i64, 1, 8, [.int .i64 0], []⟩
theorem tok2 : TOK Go.Proofs.Try.prog 2 ti2 := ⟨Go.Proofs.Try.underlying2, ⟨_, _, rfl, rfl, rfl, rfl, rfl⟩, rfl, rfl, .inl rfl, by decide⟩
def ti3 : TI := ⟨.int .i64, 1, 8, [.int .i64 0], []⟩
theorem tok3 : TOK Go.Proofs.Try.prog 3 ti3 := ⟨Go.Proofs.Try.underlying3, ⟨_, _, rfl, rfl, rfl, rfl, rfl⟩, rfl, rfl, .inl rfl, by decide⟩
def ti4 : TI := ⟨.bool, 1, 1, [.bool false], []⟩
theorem tok4 : TOK Go.Proofs.Try.prog 4 ti4 := ⟨Go.Proofs.Try.underlying4, ⟨_, _, rfl, rfl, rfl, rfl, rfl⟩, rfl, rfl, .inl rfl, by decide⟩
def ti5 : TI := ⟨.int .u8, 1, 1, [.int .u8 0], []⟩
theorem tok5 : TOK Go.Proofs.Try.prog 5 ti5 := ⟨Go.Proofs.Try.underlying5, ⟨_, _, rfl, rfl, rfl, rfl, rfl⟩, rfl, rfl, .inl rfl, by decide⟩
def ti6 : TI := ⟨.int .u8, 1, 1, [.int .u8 0], []⟩
theorem tok6 : TOK Go.Proofs.Try.prog 6 ti6 := ⟨Go.Proofs.Try.underlying6, ⟨_, _, rfl, rfl, rfl, rfl, rfl⟩, rfl, rfl, .inl rfl, by decide⟩
def ti7 : TI := ⟨.struct #[{ name := "x", type := 2, offset := 0, embedded := false, tag := "", pkgPath := "runtime", byteOffset := 0 }, { name := "y", type := 3, offset := 1, embedded := false, tag := "", pkgPath := "runtime", byteOffset := 8 }, { name := "signed", type := 4, offset := 2, embedded := false, tag := "", pkgPath := "runtime", byteOffset := 16 }, { name := "code", type := 6, offset := 3, embedded := false, tag := "", pkgPath := "runtime", byteOffset := 17 }], 4, 24, [.int .i64 0, .int .i64 0, .bool false, .int .u8 0], [(0, 1), (1, 1), (2, 1), (3, 1)]⟩
theorem tok7 : TOK Go.Proofs.Try.prog 7 ti7 := ⟨Go.Proofs.Try.underlying7, ⟨_, _, rfl, rfl, rfl, rfl, rfl⟩, rfl, rfl, .inr ⟨_, rfl, ⟨⟨_, rfl, rfl, rfl, by decide⟩, ⟨_, rfl, rfl, rfl, by decide⟩, ⟨_, rfl, rfl, rfl, by decide⟩, ⟨_, rfl, rfl, rfl, by decide⟩, trivial⟩, rfl⟩, by decide⟩
def ti8 : TI := ⟨.struct #[{ name := "x", type := 2, offset := 0, embedded := false, tag := "", pkgPath := "runtime", byteOffset := 0 }, { name := "y", type := 3, offset := 1, embedded := false, tag := "", pkgPath := "runtime", byteOffset := 8 }, { name := "signed", type := 4, offset := 2, embedded := false, tag := "", pkgPath := "runtime", byteOffset := 16 }, { name := "code", type := 6, offset := 3, embedded := false, tag := "", pkgPath := "runtime", byteOffset := 17 }], 4, 24, [.int .i64 0, .int .i64 0, .bool false, .int .u8 0], [(0, 1), (1, 1), (2, 1), (3, 1)]⟩
theorem tok8 : TOK Go.Proofs.Try.prog 8 ti8 := ⟨Go.Proofs.Try.underlying8, ⟨_, _, rfl, rfl, rfl, rfl, rfl⟩, rfl, rfl, .inr ⟨_, rfl, ⟨⟨_, rfl, rfl, rfl, by decide⟩, ⟨_, rfl, rfl, rfl, by decide⟩, ⟨_, rfl, rfl, rfl, by decide⟩, ⟨_, rfl, rfl, rfl, by decide⟩, trivial⟩, rfl⟩, by decide⟩
def ti9 : TI := ⟨.string, 1, 16, [.str ⟨#[]⟩], []⟩
theorem tok9 : TOK Go.Proofs.Try.prog 9 ti9 := ⟨Go.Proofs.Try.underlying9, ⟨_, _, rfl, rfl, rfl, rfl, rfl⟩, rfl, rfl, .inl rfl, by decide⟩
def ti10 : TI := ⟨.string, 1, 16, [.str ⟨#[]⟩], []⟩
theorem tok10 : TOK Go.Proofs.Try.prog 10 ti10 := ⟨Go.Proofs.Try.underlying10, ⟨_, _, rfl, rfl, rfl, rfl, rfl⟩, rfl, rfl, .inl rfl, by decide⟩
def ti11 : TI := ⟨.string, 1, 16, [.str ⟨#[]⟩], []⟩
theorem tok11 : TOK Go.Proofs.Try.prog 11 ti11 := ⟨Go.Proofs.Try.underlying11, ⟨_, _, rfl, rfl, rfl, rfl, rfl⟩, rfl, rfl, .inl rfl, by decide⟩
def ti12 : TI := ⟨.int .u64, 1, 8, [.int .u64 0], []⟩
theorem tok12 : TOK Go.Proofs.Try.prog 12 ti12 := ⟨Go.Proofs.Try.underlying12, ⟨_, _, rfl, rfl, rfl, rfl, rfl⟩, rfl, rfl, .inl rfl, by decide⟩
def ti13 : TI := ⟨.struct #[{ name := "msg", type := 9, offset := 0, embedded := false, tag := "", pkgPath := "runtime", byteOffset := 0 }, { name := "addr", type := 12, offset := 1, embedded := false, tag := "", pkgPath := "runtime", byteOffset := 16 }], 2, 24, [.str ⟨#[]⟩, .int .u64 0], [(0, 1), (1, 1)]⟩
theorem tok13 : TOK Go.Proofs.Try.prog 13 ti13 := ⟨Go.Proofs.Try.underlying13, ⟨_, _, rfl, rfl, rfl, rfl, rfl⟩, rfl, rfl, .inr ⟨_, rfl, ⟨⟨_, rfl, rfl, rfl, by decide⟩, ⟨_, rfl, rfl, rfl, by decide⟩, trivial⟩, rfl⟩, by decide⟩
def ti14 : TI := ⟨.struct #[{ name := "msg", type := 9, offset := 0, embedded := false, tag := "", pkgPath := "runtime", byteOffset := 0 }, { name := "addr", type := 12, offset := 1, embedded := false, tag := "", pkgPath := "runtime", byteOffset := 16 }], 2, 24, [.str ⟨#[]⟩, .int .u64 0], [(0, 1), (1, 1)]⟩
theorem tok14 : TOK Go.Proofs.Try.prog 14 ti14 := ⟨Go.Proofs.Try.underlying14, ⟨_, _, rfl, rfl, rfl, rfl, rfl⟩, rfl, rfl, .inr ⟨_, rfl, ⟨⟨_, rfl, rfl, rfl, by decide⟩, ⟨_, rfl, rfl, rfl, by decide⟩, trivial⟩, rfl⟩, by decide⟩
def ti15 : TI := ⟨.pointer 106, 1, 8, [.nilp], []⟩
theorem tok15 : TOK Go.Proofs.Try.prog 15 ti15 := ⟨Go.Proofs.Try.underlying15, ⟨_, _, rfl, rfl, rfl, rfl, rfl⟩, rfl, rfl, .inl rfl, by decide⟩
def ti16 : TI := ⟨.pointer 109, 1, 8, [.nilp], []⟩
theorem tok16 : TOK Go.Proofs.Try.prog 16 ti16 := ⟨Go.Proofs.Try.underlying16, ⟨_, _, rfl, rfl, rfl, rfl, rfl⟩, rfl, rfl, .inl rfl, by decide⟩
def ti17 : TI := ⟨.pointer 119, 1, 8, [.nilp], []⟩
theorem tok17 : TOK Go.Proofs.Try.prog 17 ti17 := ⟨Go.Proofs.Try.underlying17, ⟨_, _, rfl, rfl, rfl, rfl, rfl⟩, rfl, rfl, .inl rfl, by decide⟩
def ti18 : TI := ⟨.struct #[{ name := "typ", type := 17, offset := 0, embedded := false, tag := "", pkgPath := "internal/runtime/maps", byteOffset := 0 }], 1, 8, [.nilp], [(0, 1)]⟩
theorem tok18 : TOK Go.Proofs.Try.prog 18 ti18 := ⟨Go.Proofs.Try.underlying18, ⟨_, _, rfl, rfl, rfl, rfl, rfl⟩, rfl, rfl, .inr ⟨_, rfl, ⟨⟨_, rfl, rfl, rfl, by decide⟩, trivial⟩, rfl⟩, by decide⟩
def ti19 : TI := ⟨.struct #[{ name := "typ", type := 17, offset := 0, embedded := false, tag := "", pkgPath := "internal/runtime/maps", byteOffset := 0 }], 1, 8, [.nilp], [(0, 1)]⟩
theorem tok19 : TOK Go.Proofs.Try.prog 19 ti19 := ⟨Go.Proofs.Try.underlying19, ⟨_, _, rfl, rfl, rfl, rfl, rfl⟩, rfl, rfl, .inr ⟨_, rfl, ⟨⟨_, rfl, rfl, rfl, by decide⟩, trivial⟩, rfl⟩, by decide⟩
def ti20 : TI := ⟨.interface #[], 1, 16, [.nilif], []⟩
theorem tok20 : TOK Go.Proofs.Try.prog 20 ti20 := ⟨Go.Proofs.Try.underlying20, ⟨_, _, rfl, rfl, rfl, rfl, rfl⟩, rfl, rfl, .inl rfl, by decide⟩
def ti21 : TI := ⟨.int .i32, 1, 4, [.int .i32 0], []⟩
theorem tok21 : TOK Go.Proofs.Try.prog 21 ti21 := ⟨Go.Proofs.Try.underlying21, ⟨_, _, rfl, rfl, rfl, rfl, rfl⟩, rfl, rfl, .inl rfl, by decide⟩
def ti22 : TI := ⟨.slice 24, 1, 24, [.imm 0 3 true []], []⟩
theorem tok22 : TOK Go.Proofs.Try.prog 22 ti22 := ⟨Go.Proofs.Try.underlying22, ⟨_, _, rfl, rfl, rfl, rfl, rfl⟩, rfl, rfl, .inl rfl, by decide⟩
def ti23 : TI := ⟨.struct #[{ name := "Kind", type := 3, offset := 0, embedded := false, tag := "", pkgPath := "", byteOffset := 0 }, { name := "N", type := 3, offset := 1, embedded := false, tag := "", pkgPath := "", byteOffset := 8 }, { name := "Kids", type := 22, offset := 2, embedded := false, tag := "", pkgPath := "", byteOffset := 16 }], 3, 40, [.int .i64 0, .int .i64 0, .imm 0 3 true []], [(0, 1), (1, 1), (2, 1)]⟩
theorem tok23 : TOK Go.Proofs.Try.prog 23 ti23 := ⟨Go.Proofs.Try.underlying23, ⟨_, _, rfl, rfl, rfl, rfl, rfl⟩, rfl, rfl, .inr ⟨_, rfl, ⟨⟨_, rfl, rfl, rfl, by decide⟩, ⟨_, rfl, rfl, rfl, by decide⟩, ⟨_, rfl, rfl, rfl, by decide⟩, trivial⟩, rfl⟩, by decide⟩
def ti24 : TI := ⟨.struct #[{ name := "Kind", type := 3, offset := 0, embedded := false, tag := "", pkgPath := "", byteOffset := 0 }, { name := "N", type := 3, offset := 1, embedded := false, tag := "", pkgPath := "", byteOffset := 8 }, { name := "Kids", type := 22, offset := 2, embedded := false, tag := "", pkgPath := "", byteOffset := 16 }], 3, 40, [.int .i64 0, .int .i64 0, .imm 0 3 true []], [(0, 1), (1, 1), (2, 1)]⟩
theorem tok24 : TOK Go.Proofs.Try.prog 24 ti24 := ⟨Go.Proofs.Try.underlying24, ⟨_, _, rfl, rfl, rfl, rfl, rfl⟩, rfl, rfl, .inr ⟨_, rfl, ⟨⟨_, rfl, rfl, rfl, by decide⟩, ⟨_, rfl, rfl, rfl, by decide⟩, ⟨_, rfl, rfl, rfl, by decide⟩, trivial⟩, rfl⟩, by decide⟩
def ti25 : TI := ⟨.func #[24, 3] #[3] false, 1, 8, [.nilfn], []⟩
theorem tok25 : TOK Go.Proofs.Try.prog 25 ti25 := ⟨Go.Proofs.Try.underlying25, ⟨_, _, rfl, rfl, rfl, rfl, rfl⟩, rfl, rfl, .inl rfl, by decide⟩
def ti26 : TI := ⟨.slice 28, 1, 24, [.imm 0 4 true []], []⟩
theorem tok26 : TOK Go.Proofs.Try.prog 26 ti26 := ⟨Go.Proofs.Try.underlying26, ⟨_, _, rfl, rfl, rfl, rfl, rfl⟩, rfl, rfl, .inl rfl, by decide⟩
def ti27 : TI := ⟨.struct #[{ name := "Kind", type := 3, offset := 0, embedded := false, tag := "", pkgPath := "", byteOffset := 0 }, { name := "N", type := 3, offset := 1, embedded := false, tag := "", pkgPath := "", byteOffset := 8 }, { name := "Name", type := 9, offset := 2, embedded := false, tag := "", pkgPath := "", byteOffset := 16 }, { name := "Kids", type := 26, offset := 3, embedded := false, tag := "", pkgPath := "", byteOffset := 32 }], 4, 56, [.int .i64 0, .int .i64 0, .str ⟨#[]⟩, .imm 0 4 true []], [(0, 1), (1, 1), (2, 1), (3, 1)]⟩
theorem tok27 : TOK Go.Proofs.Try.prog 27 ti27 := ⟨Go.Proofs.Try.underlying27, ⟨_, _, rfl, rfl, rfl, rfl, rfl⟩, rfl, rfl, .inr ⟨_, rfl, ⟨⟨_, rfl, rfl, rfl, by decide⟩, ⟨_, rfl, rfl, rfl, by decide⟩, ⟨_, rfl, rfl, rfl, by decide⟩, ⟨_, rfl, rfl, rfl, by decide⟩, trivial⟩, rfl⟩, by decide⟩
def ti28 : TI := ⟨.struct #[{ name := "Kind", type := 3, offset := 0, embedded := false, tag := "", pkgPath := "", byteOffset := 0 }, { name := "N", type := 3, offset := 1, embedded := false, tag := "", pkgPath := "", byteOffset := 8 }, { name := "Name", type := 9, offset := 2, embedded := false, tag := "", pkgPath := "", byteOffset := 16 }, { name := "Kids", type := 26, offset := 3, embedded := false, tag := "", pkgPath := "", byteOffset := 32 }], 4, 56, [.int .i64 0, .int .i64 0, .str ⟨#[]⟩, .imm 0 4 true []], [(0, 1), (1, 1), (2, 1), (3, 1)]⟩
theorem tok28 : TOK Go.Proofs.Try.prog 28 ti28 := ⟨Go.Proofs.Try.underlying28, ⟨_, _, rfl, rfl, rfl, rfl, rfl⟩, rfl, rfl, .inr ⟨_, rfl, ⟨⟨_, rfl, rfl, rfl, by decide⟩, ⟨_, rfl, rfl, rfl, by decide⟩, ⟨_, rfl, rfl, rfl, by decide⟩, ⟨_, rfl, rfl, rfl, by decide⟩, trivial⟩, rfl⟩, by decide⟩
def ti30 : TI := ⟨.func #[33] #[28, 3] false, 1, 8, [.nilfn], []⟩
theorem tok30 : TOK Go.Proofs.Try.prog 30 ti30 := ⟨Go.Proofs.Try.underlying30, ⟨_, _, rfl, rfl, rfl, rfl, rfl⟩, rfl, rfl, .inl rfl, by decide⟩
def ti31 : TI := ⟨.slice 33, 1, 24, [.imm 0 3 true []], []⟩
theorem tok31 : TOK Go.Proofs.Try.prog 31 ti31 := ⟨Go.Proofs.Try.underlying31, ⟨_, _, rfl, rfl, rfl, rfl, rfl⟩, rfl, rfl, .inl rfl, by decide⟩
def ti32 : TI := ⟨.struct #[{ name := "Kind", type := 3, offset := 0, embedded := false, tag := "", pkgPath := "", byteOffset := 0 }, { name := "N", type := 3, offset := 1, embedded := false, tag := "", pkgPath := "", byteOffset := 8 }, { name := "Kids", type := 31, offset := 2, embedded := false, tag := "", pkgPath := "", byteOffset := 16 }], 3, 40, [.int .i64 0, .int .i64 0, .imm 0 3 true []], [(0, 1), (1, 1), (2, 1)]⟩
theorem tok32 : TOK Go.Proofs.Try.prog 32 ti32 := ⟨Go.Proofs.Try.underlying32, ⟨_, _, rfl, rfl, rfl, rfl, rfl⟩, rfl, rfl, .inr ⟨_, rfl, ⟨⟨_, rfl, rfl, rfl, by decide⟩, ⟨_, rfl, rfl, rfl, by decide⟩, ⟨_, rfl, rfl, rfl, by decide⟩, trivial⟩, rfl⟩, by decide⟩
def ti33 : TI := ⟨.struct #[{ name := "Kind", type := 3, offset := 0, embedded := false, tag := "", pkgPath := "", byteOffset := 0 }, { name := "N", type := 3, offset := 1, embedded := false, tag := "", pkgPath := "", byteOffset := 8 }, { name := "Kids", type := 31, offset := 2, embedded := false, tag := "", pkgPath := "", byteOffset := 16 }], 3, 40, [.int .i64 0, .int .i64 0, .imm 0 3 true []], [(0, 1), (1, 1), (2, 1)]⟩
theorem tok33 : TOK Go.Proofs.Try.prog 33 ti33 := ⟨Go.Proofs.Try.underlying33, ⟨_, _, rfl, rfl, rfl, rfl, rfl⟩, rfl, rfl, .inr ⟨_, rfl, ⟨⟨_, rfl, rfl, rfl, by decide⟩, ⟨_, rfl, rfl, rfl, by decide⟩, ⟨_, rfl, rfl, rfl, by decide⟩, trivial⟩, rfl⟩, by decide⟩
def ti34 : TI := ⟨.func #[24] #[33] false, 1, 8, [.nilfn], []⟩
theorem tok34 : TOK Go.Proofs.Try.prog 34 ti34 := ⟨Go.Proofs.Try.underlying34, ⟨_, _, rfl, rfl, rfl, rfl, rfl⟩, rfl, rfl, .inl rfl, by decide⟩
def ti35 : TI := ⟨.func #[28, 28] #[4] false, 1, 8, [.nilfn], []⟩
theorem tok35 : TOK Go.Proofs.Try.prog 35 ti35 := ⟨Go.Proofs.Try.underlying35, ⟨_, _, rfl, rfl, rfl, rfl, rfl⟩, rfl, rfl, .inl rfl, by decide⟩
def ti36 : TI := ⟨.func #[33, 33] #[4] false, 1, 8, [.nilfn], []⟩
theorem tok36 : TOK Go.Proofs.Try.prog 36 ti36 := ⟨Go.Proofs.Try.underlying36, ⟨_, _, rfl, rfl, rfl, rfl, rfl⟩, rfl, rfl, .inl rfl, by decide⟩
def ti37 : TI := ⟨.func #[33, 3] #[3] false, 1, 8, [.nilfn], []⟩
theorem tok37 : TOK Go.Proofs.Try.prog 37 ti37 := ⟨Go.Proofs.Try.underlying37, ⟨_, _, rfl, rfl, rfl, rfl, rfl⟩, rfl, rfl, .inl rfl, by decide⟩
def ti38 : TI := ⟨.func #[28, 3] #[3] false, 1, 8, [.nilfn], []⟩
theorem tok38 : TOK Go.Proofs.Try.prog 38 ti38 := ⟨Go.Proofs.Try.underlying38, ⟨_, _, rfl, rfl, rfl, rfl, rfl⟩, rfl, rfl, .inl rfl, by decide⟩
def ti39 : TI := ⟨.func #[24] #[4] false, 1, 8, [.nilfn], []⟩
theorem tok39 : TOK Go.Proofs.Try.prog 39 ti39 := ⟨Go.Proofs.Try.underlying39, ⟨_, _, rfl, rfl, rfl, rfl, rfl⟩, rfl, rfl, .inl rfl, by decide⟩
def ti40 : TI := ⟨.slice 42, 1, 24, [.imm 0 3 true []], []⟩
theorem tok40 : TOK Go.Proofs.Try.prog 40 ti40 := ⟨Go.Proofs.Try.underlying40, ⟨_, _, rfl, rfl, rfl, rfl, rfl⟩, rfl, rfl, .inl rfl, by decide⟩
def ti41 : TI := ⟨.struct #[{ name := "Kind", type := 3, offset := 0, embedded := false, tag := "", pkgPath := "", byteOffset := 0 }, { name := "N", type := 3, offset := 1, embedded := false, tag := "", pkgPath := "", byteOffset := 8 }, { name := "Kids", type := 40, offset := 2, embedded := false, tag := "", pkgPath := "", byteOffset := 16 }], 3, 40, [.int .i64 0, .int .i64 0, .imm 0 3 true []], [(0, 1), (1, 1), (2, 1)]⟩
theorem tok41 : TOK Go.Proofs.Try.prog 41 ti41 := ⟨Go.Proofs.Try.underlying41, ⟨_, _, rfl, rfl, rfl, rfl, rfl⟩, rfl, rfl, .inr ⟨_, rfl, ⟨⟨_, rfl, rfl, rfl, by decide⟩, ⟨_, rfl, rfl, rfl, by decide⟩, ⟨_, rfl, rfl, rfl, by decide⟩, trivial⟩, rfl⟩, by decide⟩
def ti42 : TI := ⟨.struct #[{ name := "Kind", type := 3, offset := 0, embedded := false, tag := "", pkgPath := "", byteOffset := 0 }, { name := "N", type := 3, offset := 1, embedded := false, tag := "", pkgPath := "", byteOffset := 8 }, { name := "Kids", type := 40, offset := 2, embedded := false, tag := "", pkgPath := "", byteOffset := 16 }], 3, 40, [.int .i64 0, .int .i64 0, .imm 0 3 true []], [(0, 1), (1, 1), (2, 1)]⟩
theorem tok42 : TOK Go.Proofs.Try.prog 42 ti42 := ⟨Go.Proofs.Try.underlying42, ⟨_, _, rfl, rfl, rfl, rfl, rfl⟩, rfl, rfl, .inr ⟨_, rfl, ⟨⟨_, rfl, rfl, rfl, by decide⟩, ⟨_, rfl, rfl, rfl, by decide⟩, ⟨_, rfl, rfl, rfl, by decide⟩, trivial⟩, rfl⟩, by decide⟩
def ti43 : TI := ⟨.func #[42, 3] #[3] false, 1, 8, [.nilfn], []⟩
theorem tok43 : TOK Go.Proofs.Try.prog 43 ti43 := ⟨Go.Proofs.Try.underlying43, ⟨_, _, rfl, rfl, rfl, rfl, rfl⟩, rfl, rfl, .inl rfl, by decide⟩
def ti44 : TI := ⟨.func #[47] #[28, 3] false, 1, 8, [.nilfn], []⟩
theorem tok44 : TOK Go.Proofs.Try.prog 44 ti44 := ⟨Go.Proofs.Try.underlying44, ⟨_, _, rfl, rfl, rfl, rfl, rfl⟩, rfl, rfl, .inl rfl, by decide⟩
def ti45 : TI := ⟨.slice 47, 1, 24, [.imm 0 3 true []], []⟩
theorem tok45 : TOK Go.Proofs.Try.prog 45 ti45 := ⟨Go.Proofs.Try.underlying45, ⟨_, _, rfl, rfl, rfl, rfl, rfl⟩, rfl, rfl, .inl rfl, by decide⟩
def ti46 : TI := ⟨.struct #[{ name := "Kind", type := 3, offset := 0, embedded := false, tag := "", pkgPath := "", byteOffset := 0 }, { name := "N", type := 3, offset := 1, embedded := false, tag := "", pkgPath := "", byteOffset := 8 }, { name := "Kids", type := 45, offset := 2, embedded := false, tag := "", pkgPath := "", byteOffset := 16 }], 3, 40, [.int .i64 0, .int .i64 0, .imm 0 3 true []], [(0, 1), (1, 1), (2, 1)]⟩
theorem tok46 : TOK Go.Proofs.Try.prog 46 ti46 := ⟨Go.Proofs.Try.underlying46, ⟨_, _, rfl, rfl, rfl, rfl, rfl⟩, rfl, rfl, .inr ⟨_, rfl, ⟨⟨_, rfl, rfl, rfl, by decide⟩, ⟨_, rfl, rfl, rfl, by decide⟩, ⟨_, rfl, rfl, rfl, by decide⟩, trivial⟩, rfl⟩, by decide⟩
def ti47 : TI := ⟨.struct #[{ name := "Kind", type := 3, offset := 0, embedded := false, tag := "", pkgPath := "", byteOffset := 0 }, { name := "N", type := 3, offset := 1, embedded := false, tag := "", pkgPath := "", byteOffset := 8 }, { name := "Kids", type := 45, offset := 2, embedded := false, tag := "", pkgPath := "", byteOffset := 16 }], 3, 40, [.int .i64 0, .int .i64 0, .imm 0 3 true []], [(0, 1), (1, 1), (2, 1)]⟩
theorem tok47 : TOK Go.Proofs.Try.prog 47 ti47 := ⟨Go.Proofs.Try.underlying47, ⟨_, _, rfl, rfl, rfl, rfl, rfl⟩, rfl, rfl, .inr ⟨_, rfl, ⟨⟨_, rfl, rfl, rfl, by decide⟩, ⟨_, rfl, rfl, rfl, by decide⟩, ⟨_, rfl, rfl, rfl, by decide⟩, trivial⟩, rfl⟩, by decide⟩
def ti48 : TI := ⟨.func #[42] #[47] false, 1, 8, [.nilfn], []⟩
theorem tok48 : TOK Go.Proofs.Try.prog 48 ti48 := ⟨Go.Proofs.Try.underlying48, ⟨_, _, rfl, rfl, rfl, rfl, rfl⟩, rfl, rfl, .inl rfl, by decide⟩
def ti49 : TI := ⟨.func #[47, 47] #[4] false, 1, 8, [.nilfn], []⟩
theorem tok49 : TOK Go.Proofs.Try.prog 49 ti49 := ⟨Go.Proofs.Try.underlying49, ⟨_, _, rfl, rfl, rfl, rfl, rfl⟩, rfl, rfl, .inl rfl, by decide⟩
def ti50 : TI := ⟨.func #[47, 3] #[3] false, 1, 8, [.nilfn], []⟩
theorem tok50 : TOK Go.Proofs.Try.prog 50 ti50 := ⟨Go.Proofs.Try.underlying50, ⟨_, _, rfl, rfl, rfl, rfl, rfl⟩, rfl, rfl, .inl rfl, by decide⟩
def ti51 : TI := ⟨.func #[42] #[4] false, 1, 8, [.nilfn], []⟩
theorem tok51 : TOK Go.Proofs.Try.prog 51 ti51 := ⟨Go.Proofs.Try.underlying51, ⟨_, _, rfl, rfl, rfl, rfl, rfl⟩, rfl, rfl, .inl rfl, by decide⟩
def ti52 : TI := ⟨.func #[22, 3] #[3] false, 1, 8, [.nilfn], []⟩
theorem tok52 : TOK Go.Proofs.Try.prog 52 ti52 := ⟨Go.Proofs.Try.underlying52, ⟨_, _, rfl, rfl, rfl, rfl, rfl⟩, rfl, rfl, .inl rfl, by decide⟩
def ti54 : TI := ⟨.func #[31] #[26, 3] false, 1, 8, [.nilfn], []⟩
theorem tok54 : TOK Go.Proofs.Try.prog 54 ti54 := ⟨Go.Proofs.Try.underlying54, ⟨_, _, rfl, rfl, rfl, rfl, rfl⟩, rfl, rfl, .inl rfl, by decide⟩
def ti55 : TI := ⟨.func #[22] #[31] false, 1, 8, [.nilfn], []⟩
theorem tok55 : TOK Go.Proofs.Try.prog 55 ti55 := ⟨Go.Proofs.Try.underlying55, ⟨_, _, rfl, rfl, rfl, rfl, rfl⟩, rfl, rfl, .inl rfl, by decide⟩
def ti56 : TI := ⟨.func #[26, 26] #[4] false, 1, 8, [.nilfn], []⟩
theorem tok56 : TOK Go.Proofs.Try.prog 56 ti56 := ⟨Go.Proofs.Try.underlying56, ⟨_, _, rfl, rfl, rfl, rfl, rfl⟩, rfl, rfl, .inl rfl, by decide⟩
def ti57 : TI := ⟨.func #[31, 31] #[4] false, 1, 8, [.nilfn], []⟩
theorem tok57 : TOK Go.Proofs.Try.prog 57 ti57 := ⟨Go.Proofs.Try.underlying57, ⟨_, _, rfl, rfl, rfl, rfl, rfl⟩, rfl, rfl, .inl rfl, by decide⟩
def ti58 : TI := ⟨.func #[31, 3] #[3] false, 1, 8, [.nilfn], []⟩
theorem tok58 : TOK Go.Proofs.Try.prog 58 ti58 := ⟨Go.Proofs.Try.underlying58, ⟨_, _, rfl, rfl, rfl, rfl, rfl⟩, rfl, rfl, .inl rfl, by decide⟩
def ti59 : TI := ⟨.func #[26, 3] #[3] false, 1, 8, [.nilfn], []⟩
theorem tok59 : TOK Go.Proofs.Try.prog 59 ti59 := ⟨Go.Proofs.Try.underlying59, ⟨_, _, rfl, rfl, rfl, rfl, rfl⟩, rfl, rfl, .inl rfl, by decide⟩
def ti60 : TI := ⟨.func #[22] #[4] false, 1, 8, [.nilfn], []⟩
theorem tok60 : TOK Go.Proofs.Try.prog 60 ti60 := ⟨Go.Proofs.Try.underlying60, ⟨_, _, rfl, rfl, rfl, rfl, rfl⟩, rfl, rfl, .inl rfl, by decide⟩
def ti61 : TI := ⟨.func #[40, 3] #[3] false, 1, 8, [.nilfn], []⟩
theorem tok61 : TOK Go.Proofs.Try.prog 61 ti61 := ⟨Go.Proofs.Try.underlying61, ⟨_, _, rfl, rfl, rfl, rfl, rfl⟩, rfl, rfl, .inl rfl, by decide⟩
def ti62 : TI := ⟨.func #[45] #[26, 3] false, 1, 8, [.nilfn], []⟩
theorem tok62 : TOK Go.Proofs.Try.prog 62 ti62 := ⟨Go.Proofs.Try.underlying62, ⟨_, _, rfl, rfl, rfl, rfl, rfl⟩, rfl, rfl, .inl rfl, by decide⟩
def ti63 : TI := ⟨.func #[40] #[45] false, 1, 8, [.nilfn], []⟩
theorem tok63 : TOK Go.Proofs.Try.prog 63 ti63 := ⟨Go.Proofs.Try.underlying63, ⟨_, _, rfl, rfl, rfl, rfl, rfl⟩, rfl, rfl, .inl rfl, by decide⟩
def ti64 : TI := ⟨.func #[45, 45] #[4] false, 1, 8, [.nilfn], []⟩
theorem tok64 : TOK Go.Proofs.Try.prog 64 ti64 := ⟨Go.Proofs.Try.underlying64, ⟨_, _, rfl, rfl, rfl, rfl, rfl⟩, rfl, rfl, .inl rfl, by decide⟩
def ti65 : TI := ⟨.func #[45, 3] #[3] false, 1, 8, [.nilfn], []⟩
theorem tok65 : TOK Go.Proofs.Try.prog 65 ti65 := ⟨Go.Proofs.Try.underlying65, ⟨_, _, rfl, rfl, rfl, rfl, rfl⟩, rfl, rfl, .inl rfl, by decide⟩
def ti66 : TI := ⟨.func #[40] #[4] false, 1, 8, [.nilfn], []⟩
theorem tok66 : TOK Go.Proofs.Try.prog 66 ti66 := ⟨Go.Proofs.Try.underlying66, ⟨_, _, rfl, rfl, rfl, rfl, rfl⟩, rfl, rfl, .inl rfl, by decide⟩
def ti67 : TI := ⟨.func #[33] #[4] false, 1, 8, [.nilfn], []⟩
theorem tok67 : TOK Go.Proofs.Try.prog 67 ti67 := ⟨Go.Proofs.Try.underlying67, ⟨_, _, rfl, rfl, rfl, rfl, rfl⟩, rfl, rfl, .inl rfl, by decide⟩
def ti68 : TI := ⟨.func #[33] #[28] false, 1, 8, [.nilfn], []⟩
theorem tok68 : TOK Go.Proofs.Try.prog 68 ti68 := ⟨Go.Proofs.Try.underlying68, ⟨_, _, rfl, rfl, rfl, rfl, rfl⟩, rfl, rfl, .inl rfl, by decide⟩
def ti69 : TI := ⟨.func #[4, 70] #[28, 3] false, 1, 8, [.nilfn], []⟩
theorem tok69 : TOK Go.Proofs.Try.prog 69 ti69 := ⟨Go.Proofs.Try.underlying69, ⟨_, _, rfl, rfl, rfl, rfl, rfl⟩, rfl, rfl, .inl rfl, by decide⟩
def ti70 : TI := ⟨.func #[] #[28] false, 1, 8, [.nilfn], []⟩
theorem tok70 : TOK Go.Proofs.Try.prog 70 ti70 := ⟨Go.Proofs.Try.underlying70, ⟨_, _, rfl, rfl, rfl, rfl, rfl⟩, rfl, rfl, .inl rfl, by decide⟩
def ti71 : TI := ⟨.func #[47] #[4] false, 1, 8, [.nilfn], []⟩
theorem tok71 : TOK Go.Proofs.Try.prog 71 ti71 := ⟨Go.Proofs.Try.underlying71, ⟨_, _, rfl, rfl, rfl, rfl, rfl⟩, rfl, rfl, .inl rfl, by decide⟩
def ti72 : TI := ⟨.func #[47] #[28] false, 1, 8, [.nilfn], []⟩
theorem tok72 : TOK Go.Proofs.Try.prog 72 ti72 := ⟨Go.Proofs.Try.underlying72, ⟨_, _, rfl, rfl, rfl, rfl, rfl⟩, rfl, rfl, .inl rfl, by decide⟩
def ti73 : TI := ⟨.func #[28] #[28] false, 1, 8, [.nilfn], []⟩
theorem tok73 : TOK Go.Proofs.Try.prog 73 ti73 := ⟨Go.Proofs.Try.underlying73, ⟨_, _, rfl, rfl, rfl, rfl, rfl⟩, rfl, rfl, .inl rfl, by decide⟩
def ti74 : TI := ⟨.func #[28] #[4] false, 1, 8, [.nilfn], []⟩
theorem tok74 : TOK Go.Proofs.Try.prog 74 ti74 := ⟨Go.Proofs.Try.underlying74, ⟨_, _, rfl, rfl, rfl, rfl, rfl⟩, rfl, rfl, .inl rfl, by decide⟩
def ti75 : TI := ⟨.func #[31] #[4] false, 1, 8, [.nilfn], []⟩
theorem tok75 : TOK Go.Proofs.Try.prog 75 ti75 := ⟨Go.Proofs.Try.underlying75, ⟨_, _, rfl, rfl, rfl, rfl, rfl⟩, rfl, rfl, .inl rfl, by decide⟩
def ti76 : TI := ⟨.func #[9, 26] #[28] true, 1, 8, [.nilfn], []⟩
theorem tok76 : TOK Go.Proofs.Try.prog 76 ti76 := ⟨Go.Proofs.Try.underlying76, ⟨_, _, rfl, rfl, rfl, rfl, rfl⟩, rfl, rfl, .inl rfl, by decide⟩
def ti77 : TI := ⟨.func #[3, 26] #[28] false, 1, 8, [.nilfn], []⟩
theorem tok77 : TOK Go.Proofs.Try.prog 77 ti77 := ⟨Go.Proofs.Try.underlying77, ⟨_, _, rfl, rfl, rfl, rfl, rfl⟩, rfl, rfl, .inl rfl, by decide⟩
def ti78 : TI := ⟨.func #[9, 26] #[28] false, 1, 8, [.nilfn], []⟩
theorem tok78 : TOK Go.Proofs.Try.prog 78 ti78 := ⟨Go.Proofs.Try.underlying78, ⟨_, _, rfl, rfl, rfl, rfl, rfl⟩, rfl, rfl, .inl rfl, by decide⟩
def ti79 : TI := ⟨.func #[87] #[4] true, 1, 8, [.nilfn], []⟩
theorem tok79 : TOK Go.Proofs.Try.prog 79 ti79 := ⟨Go.Proofs.Try.underlying79, ⟨_, _, rfl, rfl, rfl, rfl, rfl⟩, rfl, rfl, .inl rfl, by decide⟩
def ti80 : TI := ⟨.func #[28, 28] #[28] false, 1, 8, [.nilfn], []⟩
theorem tok80 : TOK Go.Proofs.Try.prog 80 ti80 := ⟨Go.Proofs.Try.underlying80, ⟨_, _, rfl, rfl, rfl, rfl, rfl⟩, rfl, rfl, .inl rfl, by decide⟩
def ti81 : TI := ⟨.func #[3, 26] #[28] true, 1, 8, [.nilfn], []⟩
theorem tok81 : TOK Go.Proofs.Try.prog 81 ti81 := ⟨Go.Proofs.Try.underlying81, ⟨_, _, rfl, rfl, rfl, rfl, rfl⟩, rfl, rfl, .inl rfl, by decide⟩
def ti82 : TI := ⟨.func #[26, 74] #[4] false, 1, 8, [.nilfn], []⟩
theorem tok82 : TOK Go.Proofs.Try.prog 82 ti82 := ⟨Go.Proofs.Try.underlying82, ⟨_, _, rfl, rfl, rfl, rfl, rfl⟩, rfl, rfl, .inl rfl, by decide⟩
def ti83 : TI := ⟨.func #[3] #[9] false, 1, 8, [.nilfn], []⟩
theorem tok83 : TOK Go.Proofs.Try.prog 83 ti83 := ⟨Go.Proofs.Try.underlying83, ⟨_, _, rfl, rfl, rfl, rfl, rfl⟩, rfl, rfl, .inl rfl, by decide⟩
def ti84 : TI := ⟨.func #[45] #[4] false, 1, 8, [.nilfn], []⟩
theorem tok84 : TOK Go.Proofs.Try.prog 84 ti84 := ⟨Go.Proofs.Try.underlying84, ⟨_, _, rfl, rfl, rfl, rfl, rfl⟩, rfl, rfl, .inl rfl, by decide⟩
def ti85 : TI := ⟨.pointer 97, 1, 8, [.nilp], []⟩
theorem tok85 : TOK Go.Proofs.Try.prog 85 ti85 := ⟨Go.Proofs.Try.underlying85, ⟨_, _, rfl, rfl, rfl, rfl, rfl⟩, rfl, rfl, .inl rfl, by decide⟩
def ti86 : TI := ⟨.func #[] #[85] false, 1, 8, [.nilfn], []⟩
theorem tok86 : TOK Go.Proofs.Try.prog 86 ti86 := ⟨Go.Proofs.Try.underlying86, ⟨_, _, rfl, rfl, rfl, rfl, rfl⟩, rfl, rfl, .inl rfl, by decide⟩
def ti87 : TI := ⟨.slice 3, 1, 24, [.imm 0 1 true []], []⟩
theorem tok87 : TOK Go.Proofs.Try.prog 87 ti87 := ⟨Go.Proofs.Try.underlying87, ⟨_, _, rfl, rfl, rfl, rfl, rfl⟩, rfl, rfl, .inl rfl, by decide⟩
def ti88 : TI := ⟨.func #[87] #[3] false, 1, 8, [.nilfn], []⟩
theorem tok88 : TOK Go.Proofs.Try.prog 88 ti88 := ⟨Go.Proofs.Try.underlying88, ⟨_, _, rfl, rfl, rfl, rfl, rfl⟩, rfl, rfl, .inl rfl, by decide⟩
def ti89 : TI := ⟨.func #[31, 67] #[4] false, 1, 8, [.nilfn], []⟩
theorem tok89 : TOK Go.Proofs.Try.prog 89 ti89 := ⟨Go.Proofs.Try.underlying89, ⟨_, _, rfl, rfl, rfl, rfl, rfl⟩, rfl, rfl, .inl rfl, by decide⟩
def ti90 : TI := ⟨.func #[26, 74] #[3] false, 1, 8, [.nilfn], []⟩
theorem tok90 : TOK Go.Proofs.Try.prog 90 ti90 := ⟨Go.Proofs.Try.underlying90, ⟨_, _, rfl, rfl, rfl, rfl, rfl⟩, rfl, rfl, .inl rfl, by decide⟩
def ti91 : TI := ⟨.func #[3, 93] #[4] false, 1, 8, [.nilfn], []⟩
theorem tok91 : TOK Go.Proofs.Try.prog 91 ti91 := ⟨Go.Proofs.Try.underlying91, ⟨_, _, rfl, rfl, rfl, rfl, rfl⟩, rfl, rfl, .inl rfl, by decide⟩
def ti92 : TI := ⟨.pointer 28, 1, 8, [.nilp], []⟩
theorem tok92 : TOK Go.Proofs.Try.prog 92 ti92 := ⟨Go.Proofs.Try.underlying92, ⟨_, _, rfl, rfl, rfl, rfl, rfl⟩, rfl, rfl, .inl rfl, by decide⟩
def ti93 : TI := ⟨.func #[92, 3] #[4] false, 1, 8, [.nilfn], []⟩
theorem tok93 : TOK Go.Proofs.Try.prog 93 ti93 := ⟨Go.Proofs.Try.underlying93, ⟨_, _, rfl, rfl, rfl, rfl, rfl⟩, rfl, rfl, .inl rfl, by decide⟩
def ti94 : TI := ⟨.slice 5, 1, 24, [.imm 0 1 true []], []⟩
theorem tok94 : TOK Go.Proofs.Try.prog 94 ti94 := ⟨Go.Proofs.Try.underlying94, ⟨_, _, rfl, rfl, rfl, rfl, rfl⟩, rfl, rfl, .inl rfl, by decide⟩
def ti95 : TI := ⟨.func #[45, 71] #[4] false, 1, 8, [.nilfn], []⟩
theorem tok95 : TOK Go.Proofs.Try.prog 95 ti95 := ⟨Go.Proofs.Try.underlying95, ⟨_, _, rfl, rfl, rfl, rfl, rfl⟩, rfl, rfl, .inl rfl, by decide⟩
def ti96 : TI := ⟨.struct #[{ name := "left", type := 3, offset := 0, embedded := false, tag := "", pkgPath := "loop.example/g00091/impl", byteOffset := 0 }, { name := "omit", type := 4, offset := 1, embedded := false, tag := "", pkgPath := "loop.example/g00091/impl", byteOffset := 8 }], 2, 16, [.int .i64 0, .bool false], [(0, 1), (1, 1)]⟩
theorem tok96 : TOK Go.Proofs.Try.prog 96 ti96 := ⟨Go.Proofs.Try.underlying96, ⟨_, _, rfl, rfl, rfl, rfl, rfl⟩, rfl, rfl, .inr ⟨_, rfl, ⟨⟨_, rfl, rfl, rfl, by decide⟩, ⟨_, rfl, rfl, rfl, by decide⟩, trivial⟩, rfl⟩, by decide⟩
def ti97 : TI := ⟨.struct #[{ name := "left", type := 3, offset := 0, embedded := false, tag := "", pkgPath := "loop.example/g00091/impl", byteOffset := 0 }, { name := "omit", type := 4, offset := 1, embedded := false, tag := "", pkgPath := "loop.example/g00091/impl", byteOffset := 8 }], 2, 16, [.int .i64 0, .bool false], [(0, 1), (1, 1)]⟩
theorem tok97 : TOK Go.Proofs.Try.prog 97 ti97 := ⟨Go.Proofs.Try.underlying97, ⟨_, _, rfl, rfl, rfl, rfl, rfl⟩, rfl, rfl, .inr ⟨_, rfl, ⟨⟨_, rfl, rfl, rfl, by decide⟩, ⟨_, rfl, rfl, rfl, by decide⟩, trivial⟩, rfl⟩, by decide⟩
def ti98 : TI := ⟨.func #[] #[4] false, 1, 8, [.nilfn], []⟩
theorem tok98 : TOK Go.Proofs.Try.prog 98 ti98 := ⟨Go.Proofs.Try.underlying98, ⟨_, _, rfl, rfl, rfl, rfl, rfl⟩, rfl, rfl, .inl rfl, by decide⟩
def ti99 : TI := ⟨.func #[3, 3, 3] #[4] false, 1, 8, [.nilfn], []⟩
theorem tok99 : TOK Go.Proofs.Try.prog 99 ti99 := ⟨Go.Proofs.Try.underlying99, ⟨_, _, rfl, rfl, rfl, rfl, rfl⟩, rfl, rfl, .inl rfl, by decide⟩
def ti100 : TI := ⟨.func #[31, 67] #[3] false, 1, 8, [.nilfn], []⟩
theorem tok100 : TOK Go.Proofs.Try.prog 100 ti100 := ⟨Go.Proofs.Try.underlying100, ⟨_, _, rfl, rfl, rfl, rfl, rfl⟩, rfl, rfl, .inl rfl, by decide⟩
def ti101 : TI := ⟨.func #[3] #[3] false, 1, 8, [.nilfn], []⟩
theorem tok101 : TOK Go.Proofs.Try.prog 101 ti101 := ⟨Go.Proofs.Try.underlying101, ⟨_, _, rfl, rfl, rfl, rfl, rfl⟩, rfl, rfl, .inl rfl, by decide⟩
def ti102 : TI := ⟨.func #[45, 71] #[3] false, 1, 8, [.nilfn], []⟩
theorem tok102 : TOK Go.Proofs.Try.prog 102 ti102 := ⟨Go.Proofs.Try.underlying102, ⟨_, _, rfl, rfl, rfl, rfl, rfl⟩, rfl, rfl, .inl rfl, by decide⟩
def ti103 : TI := ⟨.func #[3] #[4] false, 1, 8, [.nilfn], []⟩
theorem tok103 : TOK Go.Proofs.Try.prog 103 ti103 := ⟨Go.Proofs.Try.underlying103, ⟨_, _, rfl, rfl, rfl, rfl, rfl⟩, rfl, rfl, .inl rfl, by decide⟩
def ti104 : TI := ⟨.func #[] #[9] false, 1, 8, [.nilfn], []⟩
theorem tok104 : TOK Go.Proofs.Try.prog 104 ti104 := ⟨Go.Proofs.Try.underlying104, ⟨_, _, rfl, rfl, rfl, rfl, rfl⟩, rfl, rfl, .inl rfl, by decide⟩
def ti105 : TI := ⟨.struct #[{ name := "_interface", type := 17, offset := 0, embedded := false, tag := "", pkgPath := "runtime", byteOffset := 0 }, { name := "concrete", type := 17, offset := 1, embedded := false, tag := "", pkgPath := "runtime", byteOffset := 8 }, { name := "asserted", type := 17, offset := 2, embedded := false, tag := "", pkgPath := "runtime", byteOffset := 16 }, { name := "missingMethod", type := 9, offset := 3, embedded := false, tag := "", pkgPath := "runtime", byteOffset := 24 }], 4, 40, [.nilp, .nilp, .nilp, .str ⟨#[]⟩], [(0, 1), (1, 1), (2, 1), (3, 1)]⟩
theorem tok105 : TOK Go.Proofs.Try.prog 105 ti105 := ⟨Go.Proofs.Try.underlying105, ⟨_, _, rfl, rfl, rfl, rfl, rfl⟩, rfl, rfl, .inr ⟨_, rfl, ⟨⟨_, rfl, rfl, rfl, by decide⟩, ⟨_, rfl, rfl, rfl, by decide⟩, ⟨_, rfl, rfl, rfl, by decide⟩, ⟨_, rfl, rfl, rfl, by decide⟩, trivial⟩, rfl⟩, by decide⟩
def ti106 : TI := ⟨.struct #[{ name := "_interface", type := 17, offset := 0, embedded := false, tag := "", pkgPath := "runtime", byteOffset := 0 }, { name := "concrete", type := 17, offset := 1, embedded := false, tag := "", pkgPath := "runtime", byteOffset := 8 }, { name := "asserted", type := 17, offset := 2, embedded := false, tag := "", pkgPath := "runtime", byteOffset := 16 }, { name := "missingMethod", type := 9, offset := 3, embedded := false, tag := "", pkgPath := "runtime", byteOffset := 24 }], 4, 40, [.nilp, .nilp, .nilp, .str ⟨#[]⟩], [(0, 1), (1, 1), (2, 1), (3, 1)]⟩
theorem tok106 : TOK Go.Proofs.Try.prog 106 ti106 := ⟨Go.Proofs.Try.underlying106, ⟨_, _, rfl, rfl, rfl, rfl, rfl⟩, rfl, rfl, .inr ⟨_, rfl, ⟨⟨_, rfl, rfl, rfl, by decide⟩, ⟨_, rfl, rfl, rfl, by decide⟩, ⟨_, rfl, rfl, rfl, by decide⟩, ⟨_, rfl, rfl, rfl, by decide⟩, trivial⟩, rfl⟩, by decide⟩
def ti110 : TI := ⟨.func #[] #[3] false, 1, 8, [.nilfn], []⟩
theorem tok110 : TOK Go.Proofs.Try.prog 110 ti110 := ⟨Go.Proofs.Try.underlying110, ⟨_, _, rfl, rfl, rfl, rfl, rfl⟩, rfl, rfl, .inl rfl, by decide⟩
def ti111 : TI := ⟨.int .u32, 1, 4, [.int .u32 0], []⟩
theorem tok111 : TOK Go.Proofs.Try.prog 111 ti111 := ⟨Go.Proofs.Try.underlying111, ⟨_, _, rfl, rfl, rfl, rfl, rfl⟩, rfl, rfl, .inl rfl, by decide⟩
def ti112 : TI := ⟨.int .u8, 1, 1, [.int .u8 0], []⟩
theorem tok112 : TOK Go.Proofs.Try.prog 112 ti112 := ⟨Go.Proofs.Try.underlying112, ⟨_, _, rfl, rfl, rfl, rfl, rfl⟩, rfl, rfl, .inl rfl, by decide⟩
def ti113 : TI := ⟨.int .u8, 1, 1, [.int .u8 0], []⟩
theorem tok113 : TOK Go.Proofs.Try.prog 113 ti113 := ⟨Go.Proofs.Try.underlying113, ⟨_, _, rfl, rfl, rfl, rfl, rfl⟩, rfl, rfl, .inl rfl, by decide⟩
def ti114 : TI := ⟨.func #[120, 120] #[4] false, 1, 8, [.nilfn], []⟩
theorem tok114 : TOK Go.Proofs.Try.prog 114 ti114 := ⟨Go.Proofs.Try.underlying114, ⟨_, _, rfl, rfl, rfl, rfl, rfl⟩, rfl, rfl, .inl rfl, by decide⟩
def ti115 : TI := ⟨.pointer 5, 1, 8, [.nilp], []⟩
theorem tok115 : TOK Go.Proofs.Try.prog 115 ti115 := ⟨Go.Proofs.Try.underlying115, ⟨_, _, rfl, rfl, rfl, rfl, rfl⟩, rfl, rfl, .inl rfl, by decide⟩
def ti116 : TI := ⟨.int .i32, 1, 4, [.int .i32 0], []⟩
theorem tok116 : TOK Go.Proofs.Try.prog 116 ti116 := ⟨Go.Proofs.Try.underlying116, ⟨_, _, rfl, rfl, rfl, rfl, rfl⟩, rfl, rfl, .inl rfl, by decide⟩
def ti117 : TI := ⟨.int .i32, 1, 4, [.int .i32 0], []⟩
theorem tok117 : TOK Go.Proofs.Try.prog 117 ti117 := ⟨Go.Proofs.Try.underlying117, ⟨_, _, rfl, rfl, rfl, rfl, rfl⟩, rfl, rfl, .inl rfl, by decide⟩
def ti118 : TI := ⟨.struct #[{ name := "Size_", type := 12, offset := 0, embedded := false, tag := "", pkgPath := "", byteOffset := 0 }, { name := "PtrBytes", type := 12, offset := 1, embedded := false, tag := "", pkgPath := "", byteOffset := 8 }, { name := "Hash", type := 111, offset := 2, embedded := false, tag := "", pkgPath := "", byteOffset := 16 }, { name := "TFlag", type := 112, offset := 3, embedded := false, tag := "", pkgPath := "", byteOffset := 20 }, { name := "Align_", type := 5, offset := 4, embedded := false, tag := "", pkgPath := "", byteOffset := 21 }, { name := "FieldAlign_", type := 5, offset := 5, embedded := false, tag := "", pkgPath := "", byteOffset := 22 }, { name := "Kind_", type := 113, offset := 6, embedded := false, tag := "", pkgPath := "", byteOffset := 23 }, { name := "Equal", type := 114, offset := 7, embedded := false, tag := "", pkgPath := "", byteOffset := 24 }, { name := "GCData", type := 115, offset := 8, embedded := false, tag := "", pkgPath := "", byteOffset := 32 }, { name := "Str", type := 116, offset := 9, embedded := false, tag := "", pkgPath := "", byteOffset := 40 }, { name := "PtrToThis", type := 117, offset := 10, embedded := false, tag := "", pkgPath := "", byteOffset := 44 }], 11, 48, [.int .u64 0, .int .u64 0, .int .u32 0, .int .u8 0, .int .u8 0, .int .u8 0, .int .u8 0, .nilfn, .nilp, .int .i32 0, .int .i32 0], [(0, 1), (1, 1), (2, 1), (3, 1), (4, 1), (5, 1), (6, 1), (7, 1), (8, 1), (9, 1), (10, 1)]⟩
theorem tok118 : TOK Go.Proofs.Try.prog 118 ti118 := ⟨Go.Proofs.Try.underlying118, ⟨_, _, rfl, rfl, rfl, rfl, rfl⟩, rfl, rfl, .inr ⟨_, rfl, ⟨⟨_, rfl, rfl, rfl, by decide⟩, ⟨_, rfl, rfl, rfl, by decide⟩, ⟨_, rfl, rfl, rfl, by decide⟩, ⟨_, rfl, rfl, rfl, by decide⟩, ⟨_, rfl, rfl, rfl, by decide⟩, ⟨_, rfl, rfl, rfl, by decide⟩, ⟨_, rfl, rfl, rfl, by decide⟩, ⟨_, rfl, rfl, rfl, by decide⟩, ⟨_, rfl, rfl, rfl, by decide⟩, ⟨_, rfl, rfl, rfl, by decide⟩, ⟨_, rfl, rfl, rfl, by decide⟩, trivial⟩, rfl⟩, by decide⟩
def ti119 : TI := ⟨.struct #[{ name := "Size_", type := 12, offset := 0, embedded := false, tag := "", pkgPath := "", byteOffset := 0 }, { name := "PtrBytes", type := 12, offset := 1, embedded := false, tag := "", pkgPath := "", byteOffset := 8 }, { name := "Hash", type := 111, offset := 2, embedded := false, tag := "", pkgPath := "", byteOffset := 16 }, { name := "TFlag", type := 112, offset := 3, embedded := false, tag := "", pkgPath := "", byteOffset := 20 }, { name := "Align_", type := 5, offset := 4, embedded := false, tag := "", pkgPath := "", byteOffset := 21 }, { name := "FieldAlign_", type := 5, offset := 5, embedded := false, tag := "", pkgPath := "", byteOffset := 22 }, { name := "Kind_", type := 113, offset := 6, embedded := false, tag := "", pkgPath := "", byteOffset := 23 }, { name := "Equal", type := 114, offset := 7, embedded := false, tag := "", pkgPath := "", byteOffset := 24 }, { name := "GCData", type := 115, offset := 8, embedded := false, tag := "", pkgPath := "", byteOffset := 32 }, { name := "Str", type := 116, offset := 9, embedded := false, tag := "", pkgPath := "", byteOffset := 40 }, { name := "PtrToThis", type := 117, offset := 10, embedded := false, tag := "", pkgPath := "", byteOffset := 44 }], 11, 48, [.int .u64 0, .int .u64 0, .int .u32 0, .int .u8 0, .int .u8 0, .int .u8 0, .int .u8 0, .nilfn, .nilp, .int .i32 0, .int .i32 0], [(0, 1), (1, 1), (2, 1), (3, 1), (4, 1), (5, 1), (6, 1), (7, 1), (8, 1), (9, 1), (10, 1)]⟩
theorem tok119 : TOK Go.Proofs.Try.prog 119 ti119 := ⟨Go.Proofs.Try.underlying119, ⟨_, _, rfl, rfl, rfl, rfl, rfl⟩, rfl, rfl, .inr ⟨_, rfl, ⟨⟨_, rfl, rfl, rfl, by decide⟩, ⟨_, rfl, rfl, rfl, by decide⟩, ⟨_, rfl, rfl, rfl, by decide⟩, ⟨_, rfl, rfl, rfl, by decide⟩, ⟨_, rfl, rfl, rfl, by decide⟩, ⟨_, rfl, rfl, rfl, by decide⟩, ⟨_, rfl, rfl, rfl, by decide⟩, ⟨_, rfl, rfl, rfl, by decide⟩, ⟨_, rfl, rfl, rfl, by decide⟩, ⟨_, rfl, rfl, rfl, by decide⟩, ⟨_, rfl, rfl, rfl, by decide⟩, trivial⟩, rfl⟩, by decide⟩

def Γ : TTab := [(1, ti1), (2, ti2), (3, ti3), (4, ti4), (5, ti5), (6, ti6), (7, ti7), (8, ti8), (9, ti9), (10, ti10), (11, ti11), (12, ti12), (13, ti13), (14, ti14), (15, ti15), (16, ti16), (17, ti17), (18, ti18), (19, ti19), (20, ti20), (21, ti21), (22, ti22), (23, ti23), (24, ti24), (25, ti25), (26, ti26), (27, ti27), (28, ti28), (30, ti30), (31, ti31), (32, ti32), (33, ti33), (34, ti34), (35, ti35), (36, ti36), (37, ti37), (38, ti38), (39, ti39), (40, ti40), (41, ti41), (42, ti42), (43, ti43), (44, ti44), (45, ti45), (46, ti46), (47, ti47), (48, ti48), (49, ti49), (50, ti50), (51, ti51), (52, ti52), (54, ti54), (55, ti55), (56, ti56), (57, ti57), (58, ti58), (59, ti59), (60, ti60), (61, ti61), (62, ti62), (63, ti63), (64, ti64), (65, ti65), (66, ti66), (67, ti67), (68, ti68), (69, ti69), (70, ti70), (71, ti71), (72, ti72), (73, ti73), (74, ti74), (75, ti75), (76, ti76), (77, ti77), (78, ti78), (79, ti79), (80, ti80), (81, ti81), (82, ti82), (83, ti83), (84, ti84), (85, ti85), (86, ti86), (87, ti87), (88, ti88), (89, ti89), (90, ti90), (91, ti91), (92, ti92), (93, ti93), (94, ti94), (95, ti95), (96, ti96), (97, ti97), (98, ti98), (99, ti99), (100, ti100), (101, ti101), (102, ti102), (103, ti103), (104, ti104), (105, ti105), (106, ti106), (110, ti110), (111, ti111), (112, ti112), (113, ti113), (114, ti114), (115, ti115), (116, ti116), (117, ti117), (118, ti118), (119, ti119)]
theorem hG : GOK Go.Proofs.Try.prog Γ := GOK.cons tok1 (GOK.cons tok2 (GOK.cons tok3 (GOK.cons tok4 (GOK.cons tok5 (GOK.cons tok6 (GOK.cons tok7 (GOK.cons tok8 (GOK.cons tok9 (GOK.cons tok10 (GOK.cons tok11 (GOK.cons tok12 (GOK.cons tok13 (GOK.cons tok14 (GOK.cons tok15 (GOK.cons tok16 (GOK.cons tok17 (GOK.cons tok18 (GOK.cons tok19 (GOK.cons tok20 (GOK.cons tok21 (GOK.cons tok22 (GOK.cons tok23 (GOK.cons tok24 (GOK.cons tok25 (GOK.cons tok26 (GOK.cons tok27 (GOK.cons tok28 (GOK.cons tok30 (GOK.cons tok31 (GOK.cons tok32 (GOK.cons tok33 (GOK.cons tok34 (GOK.cons tok35 (GOK.cons tok36 (GOK.cons tok37 (GOK.cons tok38 (GOK.cons tok39 (GOK.cons tok40 (GOK.cons tok41 (GOK.cons tok42 (GOK.cons tok43 (GOK.cons tok44 (GOK.cons tok45 (GOK.cons tok46 (GOK.cons tok47 (GOK.cons tok48 (GOK.cons tok49 (GOK.cons tok50 (GOK.cons tok51 (GOK.cons tok52 (GOK.cons tok54 (GOK.cons tok55 (GOK.cons tok56 (GOK.cons tok57 (GOK.cons tok58 (GOK.cons tok59 (GOK.cons tok60 (GOK.cons tok61 (GOK.cons tok62 (GOK.cons tok63 (GOK.cons tok64 (GOK.cons tok65 (GOK.cons tok66 (GOK.cons tok67 (GOK.cons tok68 (GOK.cons tok69 (GOK.cons tok70 (GOK.cons tok71 (GOK.cons tok72 (GOK.cons tok73 (GOK.cons tok74 (GOK.cons tok75 (GOK.cons tok76 (GOK.cons tok77 (GOK.cons tok78 (GOK.cons tok79 (GOK.cons tok80 (GOK.cons tok81 (GOK.cons tok82 (GOK.cons tok83 (GOK.cons tok84 (GOK.cons tok85 (GOK.cons tok86 (GOK.cons tok87 (GOK.cons tok88 (GOK.cons tok89 (GOK.cons tok90 (GOK.cons tok91 (GOK.cons tok92 (GOK.cons tok93 (GOK.cons tok94 (GOK.cons tok95 (GOK.cons tok96 (GOK.cons tok97 (GOK.cons tok98 (GOK.cons tok99 (GOK.cons tok100 (GOK.cons tok101 (GOK.cons tok102 (GOK.cons tok103 (GOK.cons tok104 (GOK.cons tok105 (GOK.cons tok106 (GOK.cons tok110 (GOK.cons tok111 (GOK.cons tok112 (GOK.cons tok113 (GOK.cons tok114 (GOK.cons tok115 (GOK.cons tok116 (GOK.cons tok117 (GOK.cons tok118 (GOK.cons tok119 (GOK.nil _))))))))))))))))))))))))))))))))))))))))))))))))))))))))))))))))))))))))))))))))))))))))))))))))))))))))))))))))))
theorem mixed : Go.Proofs.Try.prog.follows .mixedOrders = true := rfl

end Go.Am.Ytgbmcnmepfpjiaa
