/- The table of types of this program: what the abstract memory logic knows of each. Written by a program of ours. -/
import Derived.Test.YtaedacibojpfkaaDoorProg
import Derived.Test.YtaedacibojpfkaaDoorAm1
namespace Go.Am.YtaedacibojpfkaaDoor
open Go Go.Am
set_option maxRecDepth 100000

def ti1 : TI := ⟨.func #[] #[] false, 1, 8, [.nilfn], []⟩
theorem tok1 : TOK Go.Proofs.Tryd.prog 1 ti1 := ⟨Go.Proofs.Tryd.underlying1, ⟨_, _, rfl, rfl, rfl, rfl, rfl⟩, rfl, rfl, .inl rfl, by decide⟩
def ti3 : TI := ⟨.int .i64, 1, 8, [.int .i64 0], []⟩
theorem tok3 : TOK Go.Proofs.Tryd.prog 3 ti3 := ⟨Go.Proofs.Tryd.underlying3, ⟨_, _, rfl, rfl, rfl, rfl, rfl⟩, rfl, rfl, .inl rfl, by decide⟩
def ti4 : TI := ⟨.bool, 1, 1, [.bool false], []⟩
theorem tok4 : TOK Go.Proofs.Tryd.prog 4 ti4 := ⟨Go.Proofs.Tryd.underlying4, ⟨_, _, rfl, rfl, rfl, rfl, rfl⟩, rfl, rfl, .inl rfl, by decide⟩
def ti5 : TI := ⟨.int .u8, 1, 1, [.int .u8 0], []⟩
theorem tok5 : TOK Go.Proofs.Tryd.prog 5 ti5 := ⟨Go.Proofs.Tryd.underlying5, ⟨_, _, rfl, rfl, rfl, rfl, rfl⟩, rfl, rfl, .inl rfl, by decide⟩
def ti9 : TI := ⟨.string, 1, 16, [.str ⟨#[]⟩], []⟩
theorem tok9 : TOK Go.Proofs.Tryd.prog 9 ti9 := ⟨Go.Proofs.Tryd.underlying9, ⟨_, _, rfl, rfl, rfl, rfl, rfl⟩, rfl, rfl, .inl rfl, by decide⟩
def ti20 : TI := ⟨.interface #[], 1, 16, [.nilif], []⟩
theorem tok20 : TOK Go.Proofs.Tryd.prog 20 ti20 := ⟨Go.Proofs.Tryd.underlying20, ⟨_, _, rfl, rfl, rfl, rfl, rfl⟩, rfl, rfl, .inl rfl, by decide⟩
def ti21 : TI := ⟨.int .i32, 1, 4, [.int .i32 0], []⟩
theorem tok21 : TOK Go.Proofs.Tryd.prog 21 ti21 := ⟨Go.Proofs.Tryd.underlying21, ⟨_, _, rfl, rfl, rfl, rfl, rfl⟩, rfl, rfl, .inl rfl, by decide⟩
def ti22 : TI := ⟨.slice 5, 1, 24, [.imm 0 1 true []], []⟩
theorem tok22 : TOK Go.Proofs.Tryd.prog 22 ti22 := ⟨Go.Proofs.Tryd.underlying22, ⟨_, _, rfl, rfl, rfl, rfl, rfl⟩, rfl, rfl, .inl rfl, by decide⟩
def ti23 : TI := ⟨.slice 25, 1, 24, [.imm 0 4 true []], []⟩
theorem tok23 : TOK Go.Proofs.Tryd.prog 23 ti23 := ⟨Go.Proofs.Tryd.underlying23, ⟨_, _, rfl, rfl, rfl, rfl, rfl⟩, rfl, rfl, .inl rfl, by decide⟩
def ti24 : TI := ⟨.struct #[{ name := "Kind", type := 3, offset := 0, embedded := false, tag := "", pkgPath := "", byteOffset := 0 }, { name := "N", type := 3, offset := 1, embedded := false, tag := "", pkgPath := "", byteOffset := 8 }, { name := "Name", type := 9, offset := 2, embedded := false, tag := "", pkgPath := "", byteOffset := 16 }, { name := "Kids", type := 23, offset := 3, embedded := false, tag := "", pkgPath := "", byteOffset := 32 }], 4, 56, [.int .i64 0, .int .i64 0, .str ⟨#[]⟩, .imm 0 4 true []], [(0, 1), (1, 1), (2, 1), (3, 1)]⟩
theorem tok24 : TOK Go.Proofs.Tryd.prog 24 ti24 := ⟨Go.Proofs.Tryd.underlying24, ⟨_, _, rfl, rfl, rfl, rfl, rfl⟩, rfl, rfl, .inr ⟨_, rfl, ⟨⟨_, rfl, rfl, rfl, by decide⟩, ⟨_, rfl, rfl, rfl, by decide⟩, ⟨_, rfl, rfl, rfl, by decide⟩, ⟨_, rfl, rfl, rfl, by decide⟩, trivial⟩, rfl⟩, by decide⟩
def ti25 : TI := ⟨.struct #[{ name := "Kind", type := 3, offset := 0, embedded := false, tag := "", pkgPath := "", byteOffset := 0 }, { name := "N", type := 3, offset := 1, embedded := false, tag := "", pkgPath := "", byteOffset := 8 }, { name := "Name", type := 9, offset := 2, embedded := false, tag := "", pkgPath := "", byteOffset := 16 }, { name := "Kids", type := 23, offset := 3, embedded := false, tag := "", pkgPath := "", byteOffset := 32 }], 4, 56, [.int .i64 0, .int .i64 0, .str ⟨#[]⟩, .imm 0 4 true []], [(0, 1), (1, 1), (2, 1), (3, 1)]⟩
theorem tok25 : TOK Go.Proofs.Tryd.prog 25 ti25 := ⟨Go.Proofs.Tryd.underlying25, ⟨_, _, rfl, rfl, rfl, rfl, rfl⟩, rfl, rfl, .inr ⟨_, rfl, ⟨⟨_, rfl, rfl, rfl, by decide⟩, ⟨_, rfl, rfl, rfl, by decide⟩, ⟨_, rfl, rfl, rfl, by decide⟩, ⟨_, rfl, rfl, rfl, by decide⟩, trivial⟩, rfl⟩, by decide⟩
def ti53 : TI := ⟨.slice 56, 1, 24, [.imm 0 5 true []], []⟩
theorem tok53 : TOK Go.Proofs.Tryd.prog 53 ti53 := ⟨Go.Proofs.Tryd.underlying53, ⟨_, _, rfl, rfl, rfl, rfl, rfl⟩, rfl, rfl, .inl rfl, by decide⟩
def ti55 : TI := ⟨.struct #[{ name := "Name", type := 9, offset := 0, embedded := false, tag := "", pkgPath := "", byteOffset := 0 }, { name := "Type", type := 25, offset := 1, embedded := false, tag := "", pkgPath := "", byteOffset := 16 }], 5, 72, [.str ⟨#[]⟩, .int .i64 0, .int .i64 0, .str ⟨#[]⟩, .imm 0 4 true []], [(0, 1), (1, 4)]⟩
theorem tok55 : TOK Go.Proofs.Tryd.prog 55 ti55 := ⟨Go.Proofs.Tryd.underlying55, ⟨_, _, rfl, rfl, rfl, rfl, rfl⟩, rfl, rfl, .inr ⟨_, rfl, ⟨⟨_, rfl, rfl, rfl, by decide⟩, ⟨_, rfl, rfl, rfl, by decide⟩, trivial⟩, rfl⟩, by decide⟩
def ti56 : TI := ⟨.struct #[{ name := "Name", type := 9, offset := 0, embedded := false, tag := "", pkgPath := "", byteOffset := 0 }, { name := "Type", type := 25, offset := 1, embedded := false, tag := "", pkgPath := "", byteOffset := 16 }], 5, 72, [.str ⟨#[]⟩, .int .i64 0, .int .i64 0, .str ⟨#[]⟩, .imm 0 4 true []], [(0, 1), (1, 4)]⟩
theorem tok56 : TOK Go.Proofs.Tryd.prog 56 ti56 := ⟨Go.Proofs.Tryd.underlying56, ⟨_, _, rfl, rfl, rfl, rfl, rfl⟩, rfl, rfl, .inr ⟨_, rfl, ⟨⟨_, rfl, rfl, rfl, by decide⟩, ⟨_, rfl, rfl, rfl, by decide⟩, trivial⟩, rfl⟩, by decide⟩
def ti59 : TI := ⟨.pointer 99, 1, 8, [.nilp], []⟩
theorem tok59 : TOK Go.Proofs.Tryd.prog 59 ti59 := ⟨Go.Proofs.Tryd.underlying59, ⟨_, _, rfl, rfl, rfl, rfl, rfl⟩, rfl, rfl, .inl rfl, by decide⟩
def ti65 : TI := ⟨.func #[25] #[4] false, 1, 8, [.nilfn], []⟩
theorem tok65 : TOK Go.Proofs.Tryd.prog 65 ti65 := ⟨Go.Proofs.Tryd.underlying65, ⟨_, _, rfl, rfl, rfl, rfl, rfl⟩, rfl, rfl, .inl rfl, by decide⟩
def ti67 : TI := ⟨.func #[25, 3] #[25] false, 1, 8, [.nilfn], []⟩
theorem tok67 : TOK Go.Proofs.Tryd.prog 67 ti67 := ⟨Go.Proofs.Tryd.underlying67, ⟨_, _, rfl, rfl, rfl, rfl, rfl⟩, rfl, rfl, .inl rfl, by decide⟩
def ti68 : TI := ⟨.slice 23, 1, 24, [.imm 0 1 true []], []⟩
theorem tok68 : TOK Go.Proofs.Tryd.prog 68 ti68 := ⟨Go.Proofs.Tryd.underlying68, ⟨_, _, rfl, rfl, rfl, rfl, rfl⟩, rfl, rfl, .inl rfl, by decide⟩
def ti83 : TI := ⟨.func #[] #[25] false, 1, 8, [.nilfn], []⟩
theorem tok83 : TOK Go.Proofs.Tryd.prog 83 ti83 := ⟨Go.Proofs.Tryd.underlying83, ⟨_, _, rfl, rfl, rfl, rfl, rfl⟩, rfl, rfl, .inl rfl, by decide⟩
def ti84 : TI := ⟨.pointer 86, 1, 8, [.nilp], []⟩
theorem tok84 : TOK Go.Proofs.Tryd.prog 84 ti84 := ⟨Go.Proofs.Tryd.underlying84, ⟨_, _, rfl, rfl, rfl, rfl, rfl⟩, rfl, rfl, .inl rfl, by decide⟩
def ti85 : TI := ⟨.struct #[{ name := "steps", type := 3, offset := 0, embedded := false, tag := "", pkgPath := "loop.example/g00091/impl", byteOffset := 0 }], 1, 8, [.int .i64 0], [(0, 1)]⟩
theorem tok85 : TOK Go.Proofs.Tryd.prog 85 ti85 := ⟨Go.Proofs.Tryd.underlying85, ⟨_, _, rfl, rfl, rfl, rfl, rfl⟩, rfl, rfl, .inr ⟨_, rfl, ⟨⟨_, rfl, rfl, rfl, by decide⟩, trivial⟩, rfl⟩, by decide⟩
def ti86 : TI := ⟨.struct #[{ name := "steps", type := 3, offset := 0, embedded := false, tag := "", pkgPath := "loop.example/g00091/impl", byteOffset := 0 }], 1, 8, [.int .i64 0], [(0, 1)]⟩
theorem tok86 : TOK Go.Proofs.Tryd.prog 86 ti86 := ⟨Go.Proofs.Tryd.underlying86, ⟨_, _, rfl, rfl, rfl, rfl, rfl⟩, rfl, rfl, .inr ⟨_, rfl, ⟨⟨_, rfl, rfl, rfl, by decide⟩, trivial⟩, rfl⟩, by decide⟩
def ti90 : TI := ⟨.pointer 92, 1, 8, [.nilp], []⟩
theorem tok90 : TOK Go.Proofs.Tryd.prog 90 ti90 := ⟨Go.Proofs.Tryd.underlying90, ⟨_, _, rfl, rfl, rfl, rfl, rfl⟩, rfl, rfl, .inl rfl, by decide⟩
def ti91 : TI := ⟨.struct #[{ name := "consts", type := 53, offset := 0, embedded := false, tag := "", pkgPath := "loop.example/g00091/impl", byteOffset := 0 }, { name := "holes", type := 23, offset := 1, embedded := false, tag := "", pkgPath := "loop.example/g00091/impl", byteOffset := 24 }], 2, 48, [.imm 0 5 true [], .imm 0 4 true []], [(0, 1), (1, 1)]⟩
theorem tok91 : TOK Go.Proofs.Tryd.prog 91 ti91 := ⟨Go.Proofs.Tryd.underlying91, ⟨_, _, rfl, rfl, rfl, rfl, rfl⟩, rfl, rfl, .inr ⟨_, rfl, ⟨⟨_, rfl, rfl, rfl, by decide⟩, ⟨_, rfl, rfl, rfl, by decide⟩, trivial⟩, rfl⟩, by decide⟩
def ti92 : TI := ⟨.struct #[{ name := "consts", type := 53, offset := 0, embedded := false, tag := "", pkgPath := "loop.example/g00091/impl", byteOffset := 0 }, { name := "holes", type := 23, offset := 1, embedded := false, tag := "", pkgPath := "loop.example/g00091/impl", byteOffset := 24 }], 2, 48, [.imm 0 5 true [], .imm 0 4 true []], [(0, 1), (1, 1)]⟩
theorem tok92 : TOK Go.Proofs.Tryd.prog 92 ti92 := ⟨Go.Proofs.Tryd.underlying92, ⟨_, _, rfl, rfl, rfl, rfl, rfl⟩, rfl, rfl, .inr ⟨_, rfl, ⟨⟨_, rfl, rfl, rfl, by decide⟩, ⟨_, rfl, rfl, rfl, by decide⟩, trivial⟩, rfl⟩, by decide⟩
def ti93 : TI := ⟨.struct #[{ name := "code", type := 3, offset := 0, embedded := false, tag := "", pkgPath := "loop.example/g00091/impl", byteOffset := 0 }, { name := "place", type := 3, offset := 1, embedded := false, tag := "", pkgPath := "loop.example/g00091/impl", byteOffset := 8 }], 2, 16, [.int .i64 0, .int .i64 0], [(0, 1), (1, 1)]⟩
theorem tok93 : TOK Go.Proofs.Tryd.prog 93 ti93 := ⟨Go.Proofs.Tryd.underlying93, ⟨_, _, rfl, rfl, rfl, rfl, rfl⟩, rfl, rfl, .inr ⟨_, rfl, ⟨⟨_, rfl, rfl, rfl, by decide⟩, ⟨_, rfl, rfl, rfl, by decide⟩, trivial⟩, rfl⟩, by decide⟩
def ti94 : TI := ⟨.struct #[{ name := "code", type := 3, offset := 0, embedded := false, tag := "", pkgPath := "loop.example/g00091/impl", byteOffset := 0 }, { name := "place", type := 3, offset := 1, embedded := false, tag := "", pkgPath := "loop.example/g00091/impl", byteOffset := 8 }], 2, 16, [.int .i64 0, .int .i64 0], [(0, 1), (1, 1)]⟩
theorem tok94 : TOK Go.Proofs.Tryd.prog 94 ti94 := ⟨Go.Proofs.Tryd.underlying94, ⟨_, _, rfl, rfl, rfl, rfl, rfl⟩, rfl, rfl, .inr ⟨_, rfl, ⟨⟨_, rfl, rfl, rfl, by decide⟩, ⟨_, rfl, rfl, rfl, by decide⟩, trivial⟩, rfl⟩, by decide⟩
def ti98 : TI := ⟨.struct #[{ name := "code", type := 22, offset := 0, embedded := false, tag := "", pkgPath := "loop.example/g00091/spec", byteOffset := 0 }, { name := "at", type := 3, offset := 1, embedded := false, tag := "", pkgPath := "loop.example/g00091/spec", byteOffset := 24 }, { name := "seed", type := 3, offset := 2, embedded := false, tag := "", pkgPath := "loop.example/g00091/spec", byteOffset := 32 }], 3, 40, [.imm 0 1 true [], .int .i64 0, .int .i64 0], [(0, 1), (1, 1), (2, 1)]⟩
theorem tok98 : TOK Go.Proofs.Tryd.prog 98 ti98 := ⟨Go.Proofs.Tryd.underlying98, ⟨_, _, rfl, rfl, rfl, rfl, rfl⟩, rfl, rfl, .inr ⟨_, rfl, ⟨⟨_, rfl, rfl, rfl, by decide⟩, ⟨_, rfl, rfl, rfl, by decide⟩, ⟨_, rfl, rfl, rfl, by decide⟩, trivial⟩, rfl⟩, by decide⟩
def ti99 : TI := ⟨.struct #[{ name := "code", type := 22, offset := 0, embedded := false, tag := "", pkgPath := "loop.example/g00091/spec", byteOffset := 0 }, { name := "at", type := 3, offset := 1, embedded := false, tag := "", pkgPath := "loop.example/g00091/spec", byteOffset := 24 }, { name := "seed", type := 3, offset := 2, embedded := false, tag := "", pkgPath := "loop.example/g00091/spec", byteOffset := 32 }], 3, 40, [.imm 0 1 true [], .int .i64 0, .int .i64 0], [(0, 1), (1, 1), (2, 1)]⟩
theorem tok99 : TOK Go.Proofs.Tryd.prog 99 ti99 := ⟨Go.Proofs.Tryd.underlying99, ⟨_, _, rfl, rfl, rfl, rfl, rfl⟩, rfl, rfl, .inr ⟨_, rfl, ⟨⟨_, rfl, rfl, rfl, by decide⟩, ⟨_, rfl, rfl, rfl, by decide⟩, ⟨_, rfl, rfl, rfl, by decide⟩, trivial⟩, rfl⟩, by decide⟩
def ti102 : TI := ⟨.slice 9, 1, 24, [.imm 0 1 true []], []⟩
theorem tok102 : TOK Go.Proofs.Tryd.prog 102 ti102 := ⟨Go.Proofs.Tryd.underlying102, ⟨_, _, rfl, rfl, rfl, rfl, rfl⟩, rfl, rfl, .inl rfl, by decide⟩
def ti106 : TI := ⟨.slice 3, 1, 24, [.imm 0 1 true []], []⟩
theorem tok106 : TOK Go.Proofs.Tryd.prog 106 ti106 := ⟨Go.Proofs.Tryd.underlying106, ⟨_, _, rfl, rfl, rfl, rfl, rfl⟩, rfl, rfl, .inl rfl, by decide⟩
def ti109 : TI := ⟨.pointer 25, 1, 8, [.nilp], []⟩
theorem tok109 : TOK Go.Proofs.Tryd.prog 109 ti109 := ⟨Go.Proofs.Tryd.underlying109, ⟨_, _, rfl, rfl, rfl, rfl, rfl⟩, rfl, rfl, .inl rfl, by decide⟩
def ti110 : TI := ⟨.func #[109, 3] #[4] false, 1, 8, [.nilfn], []⟩
theorem tok110 : TOK Go.Proofs.Tryd.prog 110 ti110 := ⟨Go.Proofs.Tryd.underlying110, ⟨_, _, rfl, rfl, rfl, rfl, rfl⟩, rfl, rfl, .inl rfl, by decide⟩
def ti116 : TI := ⟨.pointer 118, 1, 8, [.nilp], []⟩
theorem tok116 : TOK Go.Proofs.Tryd.prog 116 ti116 := ⟨Go.Proofs.Tryd.underlying116, ⟨_, _, rfl, rfl, rfl, rfl, rfl⟩, rfl, rfl, .inl rfl, by decide⟩
def ti117 : TI := ⟨.struct #[{ name := "left", type := 3, offset := 0, embedded := false, tag := "", pkgPath := "loop.example/g00091/impl", byteOffset := 0 }, { name := "omit", type := 4, offset := 1, embedded := false, tag := "", pkgPath := "loop.example/g00091/impl", byteOffset := 8 }], 2, 16, [.int .i64 0, .bool false], [(0, 1), (1, 1)]⟩
theorem tok117 : TOK Go.Proofs.Tryd.prog 117 ti117 := ⟨Go.Proofs.Tryd.underlying117, ⟨_, _, rfl, rfl, rfl, rfl, rfl⟩, rfl, rfl, .inr ⟨_, rfl, ⟨⟨_, rfl, rfl, rfl, by decide⟩, ⟨_, rfl, rfl, rfl, by decide⟩, trivial⟩, rfl⟩, by decide⟩
def ti118 : TI := ⟨.struct #[{ name := "left", type := 3, offset := 0, embedded := false, tag := "", pkgPath := "loop.example/g00091/impl", byteOffset := 0 }, { name := "omit", type := 4, offset := 1, embedded := false, tag := "", pkgPath := "loop.example/g00091/impl", byteOffset := 8 }], 2, 16, [.int .i64 0, .bool false], [(0, 1), (1, 1)]⟩
theorem tok118 : TOK Go.Proofs.Tryd.prog 118 ti118 := ⟨Go.Proofs.Tryd.underlying118, ⟨_, _, rfl, rfl, rfl, rfl, rfl⟩, rfl, rfl, .inr ⟨_, rfl, ⟨⟨_, rfl, rfl, rfl, by decide⟩, ⟨_, rfl, rfl, rfl, by decide⟩, trivial⟩, rfl⟩, by decide⟩
def ti146 : TI := ⟨.func #[56] #[4] false, 1, 8, [.nilfn], []⟩
theorem tok146 : TOK Go.Proofs.Tryd.prog 146 ti146 := ⟨Go.Proofs.Tryd.underlying146, ⟨_, _, rfl, rfl, rfl, rfl, rfl⟩, rfl, rfl, .inl rfl, by decide⟩
def ti157 : TI := ⟨.pointer 153, 1, 8, [.nilp], []⟩
theorem tok157 : TOK Go.Proofs.Tryd.prog 157 ti157 := ⟨Go.Proofs.Tryd.underlying157, ⟨_, _, rfl, rfl, rfl, rfl, rfl⟩, rfl, rfl, .inl rfl, by decide⟩

def Γ : TTab := [(1, ti1), (3, ti3), (4, ti4), (5, ti5), (9, ti9), (20, ti20), (21, ti21), (22, ti22), (23, ti23), (24, ti24), (25, ti25), (53, ti53), (55, ti55), (56, ti56), (59, ti59), (65, ti65), (67, ti67), (68, ti68), (83, ti83), (84, ti84), (85, ti85), (86, ti86), (90, ti90), (91, ti91), (92, ti92), (93, ti93), (94, ti94), (98, ti98), (99, ti99), (102, ti102), (106, ti106), (109, ti109), (110, ti110), (116, ti116), (117, ti117), (118, ti118), (146, ti146), (157, ti157)]
theorem hG : GOK Go.Proofs.Tryd.prog Γ := GOK.cons tok1 (GOK.cons tok3 (GOK.cons tok4 (GOK.cons tok5 (GOK.cons tok9 (GOK.cons tok20 (GOK.cons tok21 (GOK.cons tok22 (GOK.cons tok23 (GOK.cons tok24 (GOK.cons tok25 (GOK.cons tok53 (GOK.cons tok55 (GOK.cons tok56 (GOK.cons tok59 (GOK.cons tok65 (GOK.cons tok67 (GOK.cons tok68 (GOK.cons tok83 (GOK.cons tok84 (GOK.cons tok85 (GOK.cons tok86 (GOK.cons tok90 (GOK.cons tok91 (GOK.cons tok92 (GOK.cons tok93 (GOK.cons tok94 (GOK.cons tok98 (GOK.cons tok99 (GOK.cons tok102 (GOK.cons tok106 (GOK.cons tok109 (GOK.cons tok110 (GOK.cons tok116 (GOK.cons tok117 (GOK.cons tok118 (GOK.cons tok146 (GOK.cons tok157 (GOK.nil _))))))))))))))))))))))))))))))))))))))
theorem mixed : Go.Proofs.Tryd.prog.follows .mixedOrders = true := rfl

end Go.Am.YtaedacibojpfkaaDoor
