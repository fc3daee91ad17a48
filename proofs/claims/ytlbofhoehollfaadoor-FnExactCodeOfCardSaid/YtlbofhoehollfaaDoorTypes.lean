/- The table of types of this program: what the abstract memory logic knows of each. Written by a program of ours. -/
import Derived.Test.YtlbofhoehollfaaDoorProg
import Derived.Test.YtlbofhoehollfaaDoorAm1
namespace Go.Am.YtlbofhoehollfaaDoor
open Go Go.Am
set_option maxRecDepth 100000

def ti3 : TI := ⟨.int .i64, 1, 8, [.int .i64 0], []⟩
theorem tok3 : TOK Go.Proofs.Tryd.prog 3 ti3 := ⟨Go.Proofs.Tryd.underlying3, ⟨_, _, rfl, rfl, rfl, rfl, rfl⟩, rfl, rfl, .inl rfl, by decide⟩
def ti4 : TI := ⟨.bool, 1, 1, [.bool false], []⟩
theorem tok4 : TOK Go.Proofs.Tryd.prog 4 ti4 := ⟨Go.Proofs.Tryd.underlying4, ⟨_, _, rfl, rfl, rfl, rfl, rfl⟩, rfl, rfl, .inl rfl, by decide⟩
def ti5 : TI := ⟨.int .u8, 1, 1, [.int .u8 0], []⟩
theorem tok5 : TOK Go.Proofs.Tryd.prog 5 ti5 := ⟨Go.Proofs.Tryd.underlying5, ⟨_, _, rfl, rfl, rfl, rfl, rfl⟩, rfl, rfl, .inl rfl, by decide⟩
def ti9 : TI := ⟨.string, 1, 16, [.str ⟨#[]⟩], []⟩
theorem tok9 : TOK Go.Proofs.Tryd.prog 9 ti9 := ⟨Go.Proofs.Tryd.underlying9, ⟨_, _, rfl, rfl, rfl, rfl, rfl⟩, rfl, rfl, .inl rfl, by decide⟩
def ti21 : TI := ⟨.int .i32, 1, 4, [.int .i32 0], []⟩
theorem tok21 : TOK Go.Proofs.Tryd.prog 21 ti21 := ⟨Go.Proofs.Tryd.underlying21, ⟨_, _, rfl, rfl, rfl, rfl, rfl⟩, rfl, rfl, .inl rfl, by decide⟩
def ti26 : TI := ⟨.slice 28, 1, 24, [.imm 0 4 true []], []⟩
theorem tok26 : TOK Go.Proofs.Tryd.prog 26 ti26 := ⟨Go.Proofs.Tryd.underlying26, ⟨_, _, rfl, rfl, rfl, rfl, rfl⟩, rfl, rfl, .inl rfl, by decide⟩
def ti27 : TI := ⟨.struct #[{ name := "Kind", type := 3, offset := 0, embedded := false, tag := "", pkgPath := "", byteOffset := 0 }, { name := "N", type := 3, offset := 1, embedded := false, tag := "", pkgPath := "", byteOffset := 8 }, { name := "Name", type := 9, offset := 2, embedded := false, tag := "", pkgPath := "", byteOffset := 16 }, { name := "Kids", type := 26, offset := 3, embedded := false, tag := "", pkgPath := "", byteOffset := 32 }], 4, 56, [.int .i64 0, .int .i64 0, .str ⟨#[]⟩, .imm 0 4 true []], [(0, 1), (1, 1), (2, 1), (3, 1)]⟩
theorem tok27 : TOK Go.Proofs.Tryd.prog 27 ti27 := ⟨Go.Proofs.Tryd.underlying27, ⟨_, _, rfl, rfl, rfl, rfl, rfl⟩, rfl, rfl, .inr ⟨_, rfl, ⟨⟨_, rfl, rfl, rfl, by decide⟩, ⟨_, rfl, rfl, rfl, by decide⟩, ⟨_, rfl, rfl, rfl, by decide⟩, ⟨_, rfl, rfl, rfl, by decide⟩, trivial⟩, rfl⟩, by decide⟩
def ti28 : TI := ⟨.struct #[{ name := "Kind", type := 3, offset := 0, embedded := false, tag := "", pkgPath := "", byteOffset := 0 }, { name := "N", type := 3, offset := 1, embedded := false, tag := "", pkgPath := "", byteOffset := 8 }, { name := "Name", type := 9, offset := 2, embedded := false, tag := "", pkgPath := "", byteOffset := 16 }, { name := "Kids", type := 26, offset := 3, embedded := false, tag := "", pkgPath := "", byteOffset := 32 }], 4, 56, [.int .i64 0, .int .i64 0, .str ⟨#[]⟩, .imm 0 4 true []], [(0, 1), (1, 1), (2, 1), (3, 1)]⟩
theorem tok28 : TOK Go.Proofs.Tryd.prog 28 ti28 := ⟨Go.Proofs.Tryd.underlying28, ⟨_, _, rfl, rfl, rfl, rfl, rfl⟩, rfl, rfl, .inr ⟨_, rfl, ⟨⟨_, rfl, rfl, rfl, by decide⟩, ⟨_, rfl, rfl, rfl, by decide⟩, ⟨_, rfl, rfl, rfl, by decide⟩, ⟨_, rfl, rfl, rfl, by decide⟩, trivial⟩, rfl⟩, by decide⟩
def ti31 : TI := ⟨.slice 33, 1, 24, [.imm 0 4 true []], []⟩
theorem tok31 : TOK Go.Proofs.Tryd.prog 31 ti31 := ⟨Go.Proofs.Tryd.underlying31, ⟨_, _, rfl, rfl, rfl, rfl, rfl⟩, rfl, rfl, .inl rfl, by decide⟩
def ti32 : TI := ⟨.struct #[{ name := "Kind", type := 3, offset := 0, embedded := false, tag := "", pkgPath := "", byteOffset := 0 }, { name := "N", type := 3, offset := 1, embedded := false, tag := "", pkgPath := "", byteOffset := 8 }, { name := "Name", type := 9, offset := 2, embedded := false, tag := "", pkgPath := "", byteOffset := 16 }, { name := "Kids", type := 31, offset := 3, embedded := false, tag := "", pkgPath := "", byteOffset := 32 }], 4, 56, [.int .i64 0, .int .i64 0, .str ⟨#[]⟩, .imm 0 4 true []], [(0, 1), (1, 1), (2, 1), (3, 1)]⟩
theorem tok32 : TOK Go.Proofs.Tryd.prog 32 ti32 := ⟨Go.Proofs.Tryd.underlying32, ⟨_, _, rfl, rfl, rfl, rfl, rfl⟩, rfl, rfl, .inr ⟨_, rfl, ⟨⟨_, rfl, rfl, rfl, by decide⟩, ⟨_, rfl, rfl, rfl, by decide⟩, ⟨_, rfl, rfl, rfl, by decide⟩, ⟨_, rfl, rfl, rfl, by decide⟩, trivial⟩, rfl⟩, by decide⟩
def ti33 : TI := ⟨.struct #[{ name := "Kind", type := 3, offset := 0, embedded := false, tag := "", pkgPath := "", byteOffset := 0 }, { name := "N", type := 3, offset := 1, embedded := false, tag := "", pkgPath := "", byteOffset := 8 }, { name := "Name", type := 9, offset := 2, embedded := false, tag := "", pkgPath := "", byteOffset := 16 }, { name := "Kids", type := 31, offset := 3, embedded := false, tag := "", pkgPath := "", byteOffset := 32 }], 4, 56, [.int .i64 0, .int .i64 0, .str ⟨#[]⟩, .imm 0 4 true []], [(0, 1), (1, 1), (2, 1), (3, 1)]⟩
theorem tok33 : TOK Go.Proofs.Tryd.prog 33 ti33 := ⟨Go.Proofs.Tryd.underlying33, ⟨_, _, rfl, rfl, rfl, rfl, rfl⟩, rfl, rfl, .inr ⟨_, rfl, ⟨⟨_, rfl, rfl, rfl, by decide⟩, ⟨_, rfl, rfl, rfl, by decide⟩, ⟨_, rfl, rfl, rfl, by decide⟩, ⟨_, rfl, rfl, rfl, by decide⟩, trivial⟩, rfl⟩, by decide⟩
def ti50 : TI := ⟨.slice 9, 1, 24, [.imm 0 1 true []], []⟩
theorem tok50 : TOK Go.Proofs.Tryd.prog 50 ti50 := ⟨Go.Proofs.Tryd.underlying50, ⟨_, _, rfl, rfl, rfl, rfl, rfl⟩, rfl, rfl, .inl rfl, by decide⟩
def ti56 : TI := ⟨.pointer 72, 1, 8, [.nilp], []⟩
theorem tok56 : TOK Go.Proofs.Tryd.prog 56 ti56 := ⟨Go.Proofs.Tryd.underlying56, ⟨_, _, rfl, rfl, rfl, rfl, rfl⟩, rfl, rfl, .inl rfl, by decide⟩
def ti62 : TI := ⟨.pointer 33, 1, 8, [.nilp], []⟩
theorem tok62 : TOK Go.Proofs.Tryd.prog 62 ti62 := ⟨Go.Proofs.Tryd.underlying62, ⟨_, _, rfl, rfl, rfl, rfl, rfl⟩, rfl, rfl, .inl rfl, by decide⟩
def ti63 : TI := ⟨.func #[62, 3] #[4] false, 1, 8, [.nilfn], []⟩
theorem tok63 : TOK Go.Proofs.Tryd.prog 63 ti63 := ⟨Go.Proofs.Tryd.underlying63, ⟨_, _, rfl, rfl, rfl, rfl, rfl⟩, rfl, rfl, .inl rfl, by decide⟩
def ti68 : TI := ⟨.func #[33, 3] #[33] false, 1, 8, [.nilfn], []⟩
theorem tok68 : TOK Go.Proofs.Tryd.prog 68 ti68 := ⟨Go.Proofs.Tryd.underlying68, ⟨_, _, rfl, rfl, rfl, rfl, rfl⟩, rfl, rfl, .inl rfl, by decide⟩
def ti71 : TI := ⟨.struct #[{ name := "left", type := 3, offset := 0, embedded := false, tag := "", pkgPath := "loop.example/g00091/impl", byteOffset := 0 }, { name := "omit", type := 4, offset := 1, embedded := false, tag := "", pkgPath := "loop.example/g00091/impl", byteOffset := 8 }], 2, 16, [.int .i64 0, .bool false], [(0, 1), (1, 1)]⟩
theorem tok71 : TOK Go.Proofs.Tryd.prog 71 ti71 := ⟨Go.Proofs.Tryd.underlying71, ⟨_, _, rfl, rfl, rfl, rfl, rfl⟩, rfl, rfl, .inr ⟨_, rfl, ⟨⟨_, rfl, rfl, rfl, by decide⟩, ⟨_, rfl, rfl, rfl, by decide⟩, trivial⟩, rfl⟩, by decide⟩
def ti72 : TI := ⟨.struct #[{ name := "left", type := 3, offset := 0, embedded := false, tag := "", pkgPath := "loop.example/g00091/impl", byteOffset := 0 }, { name := "omit", type := 4, offset := 1, embedded := false, tag := "", pkgPath := "loop.example/g00091/impl", byteOffset := 8 }], 2, 16, [.int .i64 0, .bool false], [(0, 1), (1, 1)]⟩
theorem tok72 : TOK Go.Proofs.Tryd.prog 72 ti72 := ⟨Go.Proofs.Tryd.underlying72, ⟨_, _, rfl, rfl, rfl, rfl, rfl⟩, rfl, rfl, .inr ⟨_, rfl, ⟨⟨_, rfl, rfl, rfl, by decide⟩, ⟨_, rfl, rfl, rfl, by decide⟩, trivial⟩, rfl⟩, by decide⟩
def ti77 : TI := ⟨.slice 3, 1, 24, [.imm 0 1 true []], []⟩
theorem tok77 : TOK Go.Proofs.Tryd.prog 77 ti77 := ⟨Go.Proofs.Tryd.underlying77, ⟨_, _, rfl, rfl, rfl, rfl, rfl⟩, rfl, rfl, .inl rfl, by decide⟩
def ti89 : TI := ⟨.pointer 85, 1, 8, [.nilp], []⟩
theorem tok89 : TOK Go.Proofs.Tryd.prog 89 ti89 := ⟨Go.Proofs.Tryd.underlying89, ⟨_, _, rfl, rfl, rfl, rfl, rfl⟩, rfl, rfl, .inl rfl, by decide⟩
def ti91 : TI := ⟨.slice 5, 1, 24, [.imm 0 1 true []], []⟩
theorem tok91 : TOK Go.Proofs.Tryd.prog 91 ti91 := ⟨Go.Proofs.Tryd.underlying91, ⟨_, _, rfl, rfl, rfl, rfl, rfl⟩, rfl, rfl, .inl rfl, by decide⟩
def ti99 : TI := ⟨.int .u64, 1, 8, [.int .u64 0], []⟩
theorem tok99 : TOK Go.Proofs.Tryd.prog 99 ti99 := ⟨Go.Proofs.Tryd.underlying99, ⟨_, _, rfl, rfl, rfl, rfl, rfl⟩, rfl, rfl, .inl rfl, by decide⟩

def Γ : TTab := [(3, ti3), (4, ti4), (5, ti5), (9, ti9), (21, ti21), (26, ti26), (27, ti27), (28, ti28), (31, ti31), (32, ti32), (33, ti33), (50, ti50), (56, ti56), (62, ti62), (63, ti63), (68, ti68), (71, ti71), (72, ti72), (77, ti77), (89, ti89), (91, ti91), (99, ti99)]
theorem hG : GOK Go.Proofs.Tryd.prog Γ := GOK.cons tok3 (GOK.cons tok4 (GOK.cons tok5 (GOK.cons tok9 (GOK.cons tok21 (GOK.cons tok26 (GOK.cons tok27 (GOK.cons tok28 (GOK.cons tok31 (GOK.cons tok32 (GOK.cons tok33 (GOK.cons tok50 (GOK.cons tok56 (GOK.cons tok62 (GOK.cons tok63 (GOK.cons tok68 (GOK.cons tok71 (GOK.cons tok72 (GOK.cons tok77 (GOK.cons tok89 (GOK.cons tok91 (GOK.cons tok99 (GOK.nil _))))))))))))))))))))))
theorem mixed : Go.Proofs.Tryd.prog.follows .mixedOrders = true := rfl

end Go.Am.YtlbofhoehollfaaDoor
