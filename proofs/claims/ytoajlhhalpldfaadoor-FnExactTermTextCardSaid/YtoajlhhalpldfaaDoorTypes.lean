/- The table of types of this program: what the abstract memory logic knows of each. Written by a program of ours. -/
import Derived.Test.YtoajlhhalpldfaaDoorProg
import Derived.Test.YtoajlhhalpldfaaDoorAm1
namespace Go.Am.YtoajlhhalpldfaaDoor
open Go Go.Am
set_option maxRecDepth 100000

def ti1 : TI := ⟨.func #[] #[] false, 1, 8, [.nilfn], []⟩
theorem tok1 : TOK Go.Proofs.Tryd.prog 1 ti1 := ⟨Go.Proofs.Tryd.underlying1, ⟨_, _, rfl, rfl, rfl, rfl, rfl⟩, rfl, rfl, .inl rfl, by decide⟩
def ti3 : TI := ⟨.int .i64, 1, 8, [.int .i64 0], []⟩
theorem tok3 : TOK Go.Proofs.Tryd.prog 3 ti3 := ⟨Go.Proofs.Tryd.underlying3, ⟨_, _, rfl, rfl, rfl, rfl, rfl⟩, rfl, rfl, .inl rfl, by decide⟩
def ti4 : TI := ⟨.bool, 1, 1, [.bool false], []⟩
theorem tok4 : TOK Go.Proofs.Tryd.prog 4 ti4 := ⟨Go.Proofs.Tryd.underlying4, ⟨_, _, rfl, rfl, rfl, rfl, rfl⟩, rfl, rfl, .inl rfl, by decide⟩
def ti5 : TI := ⟨.int .u8, 1, 1, [.int .u8 0], []⟩
theorem tok5 : TOK Go.Proofs.Tryd.prog 5 ti5 := ⟨Go.Proofs.Tryd.underlying5, ⟨_, _, rfl, rfl, rfl, rfl, rfl⟩, rfl, rfl, .inl rfl, by decide⟩
def ti9 : TI := ⟨.string, 1, 16, [.str ⟨#[]⟩], []⟩
theorem tok9 : TOK Go.Proofs.Tryd.prog 9 ti9 := ⟨Go.Proofs.Tryd.underlying9, ⟨_, _, rfl, rfl, rfl, rfl, rfl⟩, rfl, rfl, .inl rfl, by decide⟩
def ti20 : TI := ⟨.interface #[], 1, 16, [.nilif], []⟩
theorem tok20 : TOK Go.Proofs.Tryd.prog 20 ti20 := ⟨Go.Proofs.Tryd.underlying20, ⟨_, _, rfl, rfl, rfl, rfl, rfl⟩, rfl, rfl, .inl rfl, by decide⟩
def ti21 : TI := ⟨.int .i32, 1, 4, [.int .i32 0], []⟩
theorem tok21 : TOK Go.Proofs.Tryd.prog 21 ti21 := ⟨Go.Proofs.Tryd.underlying21, ⟨_, _, rfl, rfl, rfl, rfl, rfl⟩, rfl, rfl, .inl rfl, by decide⟩
def ti22 : TI := ⟨.slice 24, 1, 24, [.imm 0 4 true []], []⟩
theorem tok22 : TOK Go.Proofs.Tryd.prog 22 ti22 := ⟨Go.Proofs.Tryd.underlying22, ⟨_, _, rfl, rfl, rfl, rfl, rfl⟩, rfl, rfl, .inl rfl, by decide⟩
def ti23 : TI := ⟨.struct #[{ name := "Kind", type := 3, offset := 0, embedded := false, tag := "", pkgPath := "", byteOffset := 0 }, { name := "N", type := 3, offset := 1, embedded := false, tag := "", pkgPath := "", byteOffset := 8 }, { name := "Name", type := 9, offset := 2, embedded := false, tag := "", pkgPath := "", byteOffset := 16 }, { name := "Kids", type := 22, offset := 3, embedded := false, tag := "", pkgPath := "", byteOffset := 32 }], 4, 56, [.int .i64 0, .int .i64 0, .str ⟨#[]⟩, .imm 0 4 true []], [(0, 1), (1, 1), (2, 1), (3, 1)]⟩
theorem tok23 : TOK Go.Proofs.Tryd.prog 23 ti23 := ⟨Go.Proofs.Tryd.underlying23, ⟨_, _, rfl, rfl, rfl, rfl, rfl⟩, rfl, rfl, .inr ⟨_, rfl, ⟨⟨_, rfl, rfl, rfl, by decide⟩, ⟨_, rfl, rfl, rfl, by decide⟩, ⟨_, rfl, rfl, rfl, by decide⟩, ⟨_, rfl, rfl, rfl, by decide⟩, trivial⟩, rfl⟩, by decide⟩
def ti24 : TI := ⟨.struct #[{ name := "Kind", type := 3, offset := 0, embedded := false, tag := "", pkgPath := "", byteOffset := 0 }, { name := "N", type := 3, offset := 1, embedded := false, tag := "", pkgPath := "", byteOffset := 8 }, { name := "Name", type := 9, offset := 2, embedded := false, tag := "", pkgPath := "", byteOffset := 16 }, { name := "Kids", type := 22, offset := 3, embedded := false, tag := "", pkgPath := "", byteOffset := 32 }], 4, 56, [.int .i64 0, .int .i64 0, .str ⟨#[]⟩, .imm 0 4 true []], [(0, 1), (1, 1), (2, 1), (3, 1)]⟩
theorem tok24 : TOK Go.Proofs.Tryd.prog 24 ti24 := ⟨Go.Proofs.Tryd.underlying24, ⟨_, _, rfl, rfl, rfl, rfl, rfl⟩, rfl, rfl, .inr ⟨_, rfl, ⟨⟨_, rfl, rfl, rfl, by decide⟩, ⟨_, rfl, rfl, rfl, by decide⟩, ⟨_, rfl, rfl, rfl, by decide⟩, ⟨_, rfl, rfl, rfl, by decide⟩, trivial⟩, rfl⟩, by decide⟩
def ti28 : TI := ⟨.slice 30, 1, 24, [.imm 0 4 true []], []⟩
theorem tok28 : TOK Go.Proofs.Tryd.prog 28 ti28 := ⟨Go.Proofs.Tryd.underlying28, ⟨_, _, rfl, rfl, rfl, rfl, rfl⟩, rfl, rfl, .inl rfl, by decide⟩
def ti29 : TI := ⟨.struct #[{ name := "Kind", type := 3, offset := 0, embedded := false, tag := "", pkgPath := "", byteOffset := 0 }, { name := "N", type := 3, offset := 1, embedded := false, tag := "", pkgPath := "", byteOffset := 8 }, { name := "Name", type := 9, offset := 2, embedded := false, tag := "", pkgPath := "", byteOffset := 16 }, { name := "Kids", type := 28, offset := 3, embedded := false, tag := "", pkgPath := "", byteOffset := 32 }], 4, 56, [.int .i64 0, .int .i64 0, .str ⟨#[]⟩, .imm 0 4 true []], [(0, 1), (1, 1), (2, 1), (3, 1)]⟩
theorem tok29 : TOK Go.Proofs.Tryd.prog 29 ti29 := ⟨Go.Proofs.Tryd.underlying29, ⟨_, _, rfl, rfl, rfl, rfl, rfl⟩, rfl, rfl, .inr ⟨_, rfl, ⟨⟨_, rfl, rfl, rfl, by decide⟩, ⟨_, rfl, rfl, rfl, by decide⟩, ⟨_, rfl, rfl, rfl, by decide⟩, ⟨_, rfl, rfl, rfl, by decide⟩, trivial⟩, rfl⟩, by decide⟩
def ti30 : TI := ⟨.struct #[{ name := "Kind", type := 3, offset := 0, embedded := false, tag := "", pkgPath := "", byteOffset := 0 }, { name := "N", type := 3, offset := 1, embedded := false, tag := "", pkgPath := "", byteOffset := 8 }, { name := "Name", type := 9, offset := 2, embedded := false, tag := "", pkgPath := "", byteOffset := 16 }, { name := "Kids", type := 28, offset := 3, embedded := false, tag := "", pkgPath := "", byteOffset := 32 }], 4, 56, [.int .i64 0, .int .i64 0, .str ⟨#[]⟩, .imm 0 4 true []], [(0, 1), (1, 1), (2, 1), (3, 1)]⟩
theorem tok30 : TOK Go.Proofs.Tryd.prog 30 ti30 := ⟨Go.Proofs.Tryd.underlying30, ⟨_, _, rfl, rfl, rfl, rfl, rfl⟩, rfl, rfl, .inr ⟨_, rfl, ⟨⟨_, rfl, rfl, rfl, by decide⟩, ⟨_, rfl, rfl, rfl, by decide⟩, ⟨_, rfl, rfl, rfl, by decide⟩, ⟨_, rfl, rfl, rfl, by decide⟩, trivial⟩, rfl⟩, by decide⟩
def ti41 : TI := ⟨.func #[] #[9] false, 1, 8, [.nilfn], []⟩
theorem tok41 : TOK Go.Proofs.Tryd.prog 41 ti41 := ⟨Go.Proofs.Tryd.underlying41, ⟨_, _, rfl, rfl, rfl, rfl, rfl⟩, rfl, rfl, .inl rfl, by decide⟩
def ti49 : TI := ⟨.struct #[{ name := "code", type := 3, offset := 0, embedded := false, tag := "", pkgPath := "loop.example/g00091/impl", byteOffset := 0 }, { name := "place", type := 3, offset := 1, embedded := false, tag := "", pkgPath := "loop.example/g00091/impl", byteOffset := 8 }], 2, 16, [.int .i64 0, .int .i64 0], [(0, 1), (1, 1)]⟩
theorem tok49 : TOK Go.Proofs.Tryd.prog 49 ti49 := ⟨Go.Proofs.Tryd.underlying49, ⟨_, _, rfl, rfl, rfl, rfl, rfl⟩, rfl, rfl, .inr ⟨_, rfl, ⟨⟨_, rfl, rfl, rfl, by decide⟩, ⟨_, rfl, rfl, rfl, by decide⟩, trivial⟩, rfl⟩, by decide⟩
def ti50 : TI := ⟨.struct #[{ name := "code", type := 3, offset := 0, embedded := false, tag := "", pkgPath := "loop.example/g00091/impl", byteOffset := 0 }, { name := "place", type := 3, offset := 1, embedded := false, tag := "", pkgPath := "loop.example/g00091/impl", byteOffset := 8 }], 2, 16, [.int .i64 0, .int .i64 0], [(0, 1), (1, 1)]⟩
theorem tok50 : TOK Go.Proofs.Tryd.prog 50 ti50 := ⟨Go.Proofs.Tryd.underlying50, ⟨_, _, rfl, rfl, rfl, rfl, rfl⟩, rfl, rfl, .inr ⟨_, rfl, ⟨⟨_, rfl, rfl, rfl, by decide⟩, ⟨_, rfl, rfl, rfl, by decide⟩, trivial⟩, rfl⟩, by decide⟩
def ti52 : TI := ⟨.pointer 54, 1, 8, [.nilp], []⟩
theorem tok52 : TOK Go.Proofs.Tryd.prog 52 ti52 := ⟨Go.Proofs.Tryd.underlying52, ⟨_, _, rfl, rfl, rfl, rfl, rfl⟩, rfl, rfl, .inl rfl, by decide⟩
def ti53 : TI := ⟨.struct #[{ name := "left", type := 3, offset := 0, embedded := false, tag := "", pkgPath := "loop.example/g00091/impl", byteOffset := 0 }, { name := "omit", type := 4, offset := 1, embedded := false, tag := "", pkgPath := "loop.example/g00091/impl", byteOffset := 8 }], 2, 16, [.int .i64 0, .bool false], [(0, 1), (1, 1)]⟩
theorem tok53 : TOK Go.Proofs.Tryd.prog 53 ti53 := ⟨Go.Proofs.Tryd.underlying53, ⟨_, _, rfl, rfl, rfl, rfl, rfl⟩, rfl, rfl, .inr ⟨_, rfl, ⟨⟨_, rfl, rfl, rfl, by decide⟩, ⟨_, rfl, rfl, rfl, by decide⟩, trivial⟩, rfl⟩, by decide⟩
def ti54 : TI := ⟨.struct #[{ name := "left", type := 3, offset := 0, embedded := false, tag := "", pkgPath := "loop.example/g00091/impl", byteOffset := 0 }, { name := "omit", type := 4, offset := 1, embedded := false, tag := "", pkgPath := "loop.example/g00091/impl", byteOffset := 8 }], 2, 16, [.int .i64 0, .bool false], [(0, 1), (1, 1)]⟩
theorem tok54 : TOK Go.Proofs.Tryd.prog 54 ti54 := ⟨Go.Proofs.Tryd.underlying54, ⟨_, _, rfl, rfl, rfl, rfl, rfl⟩, rfl, rfl, .inr ⟨_, rfl, ⟨⟨_, rfl, rfl, rfl, by decide⟩, ⟨_, rfl, rfl, rfl, by decide⟩, trivial⟩, rfl⟩, by decide⟩
def ti56 : TI := ⟨.pointer 30, 1, 8, [.nilp], []⟩
theorem tok56 : TOK Go.Proofs.Tryd.prog 56 ti56 := ⟨Go.Proofs.Tryd.underlying56, ⟨_, _, rfl, rfl, rfl, rfl, rfl⟩, rfl, rfl, .inl rfl, by decide⟩
def ti58 : TI := ⟨.slice 5, 1, 24, [.imm 0 1 true []], []⟩
theorem tok58 : TOK Go.Proofs.Tryd.prog 58 ti58 := ⟨Go.Proofs.Tryd.underlying58, ⟨_, _, rfl, rfl, rfl, rfl, rfl⟩, rfl, rfl, .inl rfl, by decide⟩
def ti75 : TI := ⟨.pointer 71, 1, 8, [.nilp], []⟩
theorem tok75 : TOK Go.Proofs.Tryd.prog 75 ti75 := ⟨Go.Proofs.Tryd.underlying75, ⟨_, _, rfl, rfl, rfl, rfl, rfl⟩, rfl, rfl, .inl rfl, by decide⟩

def Γ : TTab := [(1, ti1), (3, ti3), (4, ti4), (5, ti5), (9, ti9), (20, ti20), (21, ti21), (22, ti22), (23, ti23), (24, ti24), (28, ti28), (29, ti29), (30, ti30), (41, ti41), (49, ti49), (50, ti50), (52, ti52), (53, ti53), (54, ti54), (56, ti56), (58, ti58), (75, ti75)]
theorem hG : GOK Go.Proofs.Tryd.prog Γ := GOK.cons tok1 (GOK.cons tok3 (GOK.cons tok4 (GOK.cons tok5 (GOK.cons tok9 (GOK.cons tok20 (GOK.cons tok21 (GOK.cons tok22 (GOK.cons tok23 (GOK.cons tok24 (GOK.cons tok28 (GOK.cons tok29 (GOK.cons tok30 (GOK.cons tok41 (GOK.cons tok49 (GOK.cons tok50 (GOK.cons tok52 (GOK.cons tok53 (GOK.cons tok54 (GOK.cons tok56 (GOK.cons tok58 (GOK.cons tok75 (GOK.nil _))))))))))))))))))))))
theorem mixed : Go.Proofs.Tryd.prog.follows .mixedOrders = true := rfl

end Go.Am.YtoajlhhalpldfaaDoor
