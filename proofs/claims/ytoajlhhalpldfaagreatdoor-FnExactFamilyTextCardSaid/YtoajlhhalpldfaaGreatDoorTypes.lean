/- The table of types of this program: what the abstract memory logic knows of each. Written by a program of ours. -/
import Derived.Test.YtoajlhhalpldfaaGreatDoorProg
import Derived.Test.YtoajlhhalpldfaaGreatDoorAm1
namespace Go.Am.YtoajlhhalpldfaaGreatDoor
open Go Go.Am
set_option maxRecDepth 100000

def ti1 : TI := ⟨.func #[] #[] false, 1, 8, [.nilfn], []⟩
theorem tok1 : TOK Go.Proofs.Tryz.prog 1 ti1 := ⟨Go.Proofs.Tryz.underlying1, ⟨_, _, rfl, rfl, rfl, rfl, rfl⟩, rfl, rfl, .inl rfl, by decide⟩
def ti3 : TI := ⟨.int .i64, 1, 8, [.int .i64 0], []⟩
theorem tok3 : TOK Go.Proofs.Tryz.prog 3 ti3 := ⟨Go.Proofs.Tryz.underlying3, ⟨_, _, rfl, rfl, rfl, rfl, rfl⟩, rfl, rfl, .inl rfl, by decide⟩
def ti4 : TI := ⟨.bool, 1, 1, [.bool false], []⟩
theorem tok4 : TOK Go.Proofs.Tryz.prog 4 ti4 := ⟨Go.Proofs.Tryz.underlying4, ⟨_, _, rfl, rfl, rfl, rfl, rfl⟩, rfl, rfl, .inl rfl, by decide⟩
def ti5 : TI := ⟨.int .u8, 1, 1, [.int .u8 0], []⟩
theorem tok5 : TOK Go.Proofs.Tryz.prog 5 ti5 := ⟨Go.Proofs.Tryz.underlying5, ⟨_, _, rfl, rfl, rfl, rfl, rfl⟩, rfl, rfl, .inl rfl, by decide⟩
def ti9 : TI := ⟨.string, 1, 16, [.str ⟨#[]⟩], []⟩
theorem tok9 : TOK Go.Proofs.Tryz.prog 9 ti9 := ⟨Go.Proofs.Tryz.underlying9, ⟨_, _, rfl, rfl, rfl, rfl, rfl⟩, rfl, rfl, .inl rfl, by decide⟩
def ti20 : TI := ⟨.interface #[], 1, 16, [.nilif], []⟩
theorem tok20 : TOK Go.Proofs.Tryz.prog 20 ti20 := ⟨Go.Proofs.Tryz.underlying20, ⟨_, _, rfl, rfl, rfl, rfl, rfl⟩, rfl, rfl, .inl rfl, by decide⟩
def ti21 : TI := ⟨.int .i32, 1, 4, [.int .i32 0], []⟩
theorem tok21 : TOK Go.Proofs.Tryz.prog 21 ti21 := ⟨Go.Proofs.Tryz.underlying21, ⟨_, _, rfl, rfl, rfl, rfl, rfl⟩, rfl, rfl, .inl rfl, by decide⟩
def ti22 : TI := ⟨.slice 5, 1, 24, [.imm 0 1 true []], []⟩
theorem tok22 : TOK Go.Proofs.Tryz.prog 22 ti22 := ⟨Go.Proofs.Tryz.underlying22, ⟨_, _, rfl, rfl, rfl, rfl, rfl⟩, rfl, rfl, .inl rfl, by decide⟩
def ti23 : TI := ⟨.slice 27, 1, 24, [.imm 0 4 true []], []⟩
theorem tok23 : TOK Go.Proofs.Tryz.prog 23 ti23 := ⟨Go.Proofs.Tryz.underlying23, ⟨_, _, rfl, rfl, rfl, rfl, rfl⟩, rfl, rfl, .inl rfl, by decide⟩
def ti26 : TI := ⟨.struct #[{ name := "Kind", type := 3, offset := 0, embedded := false, tag := "", pkgPath := "", byteOffset := 0 }, { name := "N", type := 3, offset := 1, embedded := false, tag := "", pkgPath := "", byteOffset := 8 }, { name := "Name", type := 9, offset := 2, embedded := false, tag := "", pkgPath := "", byteOffset := 16 }, { name := "Kids", type := 23, offset := 3, embedded := false, tag := "", pkgPath := "", byteOffset := 32 }], 4, 56, [.int .i64 0, .int .i64 0, .str ⟨#[]⟩, .imm 0 4 true []], [(0, 1), (1, 1), (2, 1), (3, 1)]⟩
theorem tok26 : TOK Go.Proofs.Tryz.prog 26 ti26 := ⟨Go.Proofs.Tryz.underlying26, ⟨_, _, rfl, rfl, rfl, rfl, rfl⟩, rfl, rfl, .inr ⟨_, rfl, ⟨⟨_, rfl, rfl, rfl, by decide⟩, ⟨_, rfl, rfl, rfl, by decide⟩, ⟨_, rfl, rfl, rfl, by decide⟩, ⟨_, rfl, rfl, rfl, by decide⟩, trivial⟩, rfl⟩, by decide⟩
def ti27 : TI := ⟨.struct #[{ name := "Kind", type := 3, offset := 0, embedded := false, tag := "", pkgPath := "", byteOffset := 0 }, { name := "N", type := 3, offset := 1, embedded := false, tag := "", pkgPath := "", byteOffset := 8 }, { name := "Name", type := 9, offset := 2, embedded := false, tag := "", pkgPath := "", byteOffset := 16 }, { name := "Kids", type := 23, offset := 3, embedded := false, tag := "", pkgPath := "", byteOffset := 32 }], 4, 56, [.int .i64 0, .int .i64 0, .str ⟨#[]⟩, .imm 0 4 true []], [(0, 1), (1, 1), (2, 1), (3, 1)]⟩
theorem tok27 : TOK Go.Proofs.Tryz.prog 27 ti27 := ⟨Go.Proofs.Tryz.underlying27, ⟨_, _, rfl, rfl, rfl, rfl, rfl⟩, rfl, rfl, .inr ⟨_, rfl, ⟨⟨_, rfl, rfl, rfl, by decide⟩, ⟨_, rfl, rfl, rfl, by decide⟩, ⟨_, rfl, rfl, rfl, by decide⟩, ⟨_, rfl, rfl, rfl, by decide⟩, trivial⟩, rfl⟩, by decide⟩
def ti33 : TI := ⟨.func #[27] #[4] false, 1, 8, [.nilfn], []⟩
theorem tok33 : TOK Go.Proofs.Tryz.prog 33 ti33 := ⟨Go.Proofs.Tryz.underlying33, ⟨_, _, rfl, rfl, rfl, rfl, rfl⟩, rfl, rfl, .inl rfl, by decide⟩
def ti36 : TI := ⟨.slice 38, 1, 24, [.imm 0 4 true []], []⟩
theorem tok36 : TOK Go.Proofs.Tryz.prog 36 ti36 := ⟨Go.Proofs.Tryz.underlying36, ⟨_, _, rfl, rfl, rfl, rfl, rfl⟩, rfl, rfl, .inl rfl, by decide⟩
def ti37 : TI := ⟨.struct #[{ name := "Kind", type := 3, offset := 0, embedded := false, tag := "", pkgPath := "", byteOffset := 0 }, { name := "N", type := 3, offset := 1, embedded := false, tag := "", pkgPath := "", byteOffset := 8 }, { name := "Name", type := 9, offset := 2, embedded := false, tag := "", pkgPath := "", byteOffset := 16 }, { name := "Kids", type := 36, offset := 3, embedded := false, tag := "", pkgPath := "", byteOffset := 32 }], 4, 56, [.int .i64 0, .int .i64 0, .str ⟨#[]⟩, .imm 0 4 true []], [(0, 1), (1, 1), (2, 1), (3, 1)]⟩
theorem tok37 : TOK Go.Proofs.Tryz.prog 37 ti37 := ⟨Go.Proofs.Tryz.underlying37, ⟨_, _, rfl, rfl, rfl, rfl, rfl⟩, rfl, rfl, .inr ⟨_, rfl, ⟨⟨_, rfl, rfl, rfl, by decide⟩, ⟨_, rfl, rfl, rfl, by decide⟩, ⟨_, rfl, rfl, rfl, by decide⟩, ⟨_, rfl, rfl, rfl, by decide⟩, trivial⟩, rfl⟩, by decide⟩
def ti38 : TI := ⟨.struct #[{ name := "Kind", type := 3, offset := 0, embedded := false, tag := "", pkgPath := "", byteOffset := 0 }, { name := "N", type := 3, offset := 1, embedded := false, tag := "", pkgPath := "", byteOffset := 8 }, { name := "Name", type := 9, offset := 2, embedded := false, tag := "", pkgPath := "", byteOffset := 16 }, { name := "Kids", type := 36, offset := 3, embedded := false, tag := "", pkgPath := "", byteOffset := 32 }], 4, 56, [.int .i64 0, .int .i64 0, .str ⟨#[]⟩, .imm 0 4 true []], [(0, 1), (1, 1), (2, 1), (3, 1)]⟩
theorem tok38 : TOK Go.Proofs.Tryz.prog 38 ti38 := ⟨Go.Proofs.Tryz.underlying38, ⟨_, _, rfl, rfl, rfl, rfl, rfl⟩, rfl, rfl, .inr ⟨_, rfl, ⟨⟨_, rfl, rfl, rfl, by decide⟩, ⟨_, rfl, rfl, rfl, by decide⟩, ⟨_, rfl, rfl, rfl, by decide⟩, ⟨_, rfl, rfl, rfl, by decide⟩, trivial⟩, rfl⟩, by decide⟩
def ti44 : TI := ⟨.pointer 69, 1, 8, [.nilp], []⟩
theorem tok44 : TOK Go.Proofs.Tryz.prog 44 ti44 := ⟨Go.Proofs.Tryz.underlying44, ⟨_, _, rfl, rfl, rfl, rfl, rfl⟩, rfl, rfl, .inl rfl, by decide⟩
def ti54 : TI := ⟨.pointer 56, 1, 8, [.nilp], []⟩
theorem tok54 : TOK Go.Proofs.Tryz.prog 54 ti54 := ⟨Go.Proofs.Tryz.underlying54, ⟨_, _, rfl, rfl, rfl, rfl, rfl⟩, rfl, rfl, .inl rfl, by decide⟩
def ti55 : TI := ⟨.struct #[{ name := "steps", type := 3, offset := 0, embedded := false, tag := "", pkgPath := "loop.example/g00091/impl", byteOffset := 0 }], 1, 8, [.int .i64 0], [(0, 1)]⟩
theorem tok55 : TOK Go.Proofs.Tryz.prog 55 ti55 := ⟨Go.Proofs.Tryz.underlying55, ⟨_, _, rfl, rfl, rfl, rfl, rfl⟩, rfl, rfl, .inr ⟨_, rfl, ⟨⟨_, rfl, rfl, rfl, by decide⟩, trivial⟩, rfl⟩, by decide⟩
def ti56 : TI := ⟨.struct #[{ name := "steps", type := 3, offset := 0, embedded := false, tag := "", pkgPath := "loop.example/g00091/impl", byteOffset := 0 }], 1, 8, [.int .i64 0], [(0, 1)]⟩
theorem tok56 : TOK Go.Proofs.Tryz.prog 56 ti56 := ⟨Go.Proofs.Tryz.underlying56, ⟨_, _, rfl, rfl, rfl, rfl, rfl⟩, rfl, rfl, .inr ⟨_, rfl, ⟨⟨_, rfl, rfl, rfl, by decide⟩, trivial⟩, rfl⟩, by decide⟩
def ti58 : TI := ⟨.func #[] #[27] false, 1, 8, [.nilfn], []⟩
theorem tok58 : TOK Go.Proofs.Tryz.prog 58 ti58 := ⟨Go.Proofs.Tryz.underlying58, ⟨_, _, rfl, rfl, rfl, rfl, rfl⟩, rfl, rfl, .inl rfl, by decide⟩
def ti66 : TI := ⟨.func #[] #[9] false, 1, 8, [.nilfn], []⟩
theorem tok66 : TOK Go.Proofs.Tryz.prog 66 ti66 := ⟨Go.Proofs.Tryz.underlying66, ⟨_, _, rfl, rfl, rfl, rfl, rfl⟩, rfl, rfl, .inl rfl, by decide⟩
def ti68 : TI := ⟨.struct #[{ name := "code", type := 22, offset := 0, embedded := false, tag := "", pkgPath := "loop.example/g00091/spec", byteOffset := 0 }, { name := "at", type := 3, offset := 1, embedded := false, tag := "", pkgPath := "loop.example/g00091/spec", byteOffset := 24 }, { name := "seed", type := 3, offset := 2, embedded := false, tag := "", pkgPath := "loop.example/g00091/spec", byteOffset := 32 }], 3, 40, [.imm 0 1 true [], .int .i64 0, .int .i64 0], [(0, 1), (1, 1), (2, 1)]⟩
theorem tok68 : TOK Go.Proofs.Tryz.prog 68 ti68 := ⟨Go.Proofs.Tryz.underlying68, ⟨_, _, rfl, rfl, rfl, rfl, rfl⟩, rfl, rfl, .inr ⟨_, rfl, ⟨⟨_, rfl, rfl, rfl, by decide⟩, ⟨_, rfl, rfl, rfl, by decide⟩, ⟨_, rfl, rfl, rfl, by decide⟩, trivial⟩, rfl⟩, by decide⟩
def ti69 : TI := ⟨.struct #[{ name := "code", type := 22, offset := 0, embedded := false, tag := "", pkgPath := "loop.example/g00091/spec", byteOffset := 0 }, { name := "at", type := 3, offset := 1, embedded := false, tag := "", pkgPath := "loop.example/g00091/spec", byteOffset := 24 }, { name := "seed", type := 3, offset := 2, embedded := false, tag := "", pkgPath := "loop.example/g00091/spec", byteOffset := 32 }], 3, 40, [.imm 0 1 true [], .int .i64 0, .int .i64 0], [(0, 1), (1, 1), (2, 1)]⟩
theorem tok69 : TOK Go.Proofs.Tryz.prog 69 ti69 := ⟨Go.Proofs.Tryz.underlying69, ⟨_, _, rfl, rfl, rfl, rfl, rfl⟩, rfl, rfl, .inr ⟨_, rfl, ⟨⟨_, rfl, rfl, rfl, by decide⟩, ⟨_, rfl, rfl, rfl, by decide⟩, ⟨_, rfl, rfl, rfl, by decide⟩, trivial⟩, rfl⟩, by decide⟩
def ti73 : TI := ⟨.slice 3, 1, 24, [.imm 0 1 true []], []⟩
theorem tok73 : TOK Go.Proofs.Tryz.prog 73 ti73 := ⟨Go.Proofs.Tryz.underlying73, ⟨_, _, rfl, rfl, rfl, rfl, rfl⟩, rfl, rfl, .inl rfl, by decide⟩
def ti76 : TI := ⟨.struct #[{ name := "code", type := 3, offset := 0, embedded := false, tag := "", pkgPath := "loop.example/g00091/impl", byteOffset := 0 }, { name := "place", type := 3, offset := 1, embedded := false, tag := "", pkgPath := "loop.example/g00091/impl", byteOffset := 8 }], 2, 16, [.int .i64 0, .int .i64 0], [(0, 1), (1, 1)]⟩
theorem tok76 : TOK Go.Proofs.Tryz.prog 76 ti76 := ⟨Go.Proofs.Tryz.underlying76, ⟨_, _, rfl, rfl, rfl, rfl, rfl⟩, rfl, rfl, .inr ⟨_, rfl, ⟨⟨_, rfl, rfl, rfl, by decide⟩, ⟨_, rfl, rfl, rfl, by decide⟩, trivial⟩, rfl⟩, by decide⟩
def ti77 : TI := ⟨.struct #[{ name := "code", type := 3, offset := 0, embedded := false, tag := "", pkgPath := "loop.example/g00091/impl", byteOffset := 0 }, { name := "place", type := 3, offset := 1, embedded := false, tag := "", pkgPath := "loop.example/g00091/impl", byteOffset := 8 }], 2, 16, [.int .i64 0, .int .i64 0], [(0, 1), (1, 1)]⟩
theorem tok77 : TOK Go.Proofs.Tryz.prog 77 ti77 := ⟨Go.Proofs.Tryz.underlying77, ⟨_, _, rfl, rfl, rfl, rfl, rfl⟩, rfl, rfl, .inr ⟨_, rfl, ⟨⟨_, rfl, rfl, rfl, by decide⟩, ⟨_, rfl, rfl, rfl, by decide⟩, trivial⟩, rfl⟩, by decide⟩
def ti80 : TI := ⟨.pointer 100, 1, 8, [.nilp], []⟩
theorem tok80 : TOK Go.Proofs.Tryz.prog 80 ti80 := ⟨Go.Proofs.Tryz.underlying80, ⟨_, _, rfl, rfl, rfl, rfl, rfl⟩, rfl, rfl, .inl rfl, by decide⟩
def ti88 : TI := ⟨.func #[27, 3] #[27] false, 1, 8, [.nilfn], []⟩
theorem tok88 : TOK Go.Proofs.Tryz.prog 88 ti88 := ⟨Go.Proofs.Tryz.underlying88, ⟨_, _, rfl, rfl, rfl, rfl, rfl⟩, rfl, rfl, .inl rfl, by decide⟩
def ti91 : TI := ⟨.slice 9, 1, 24, [.imm 0 1 true []], []⟩
theorem tok91 : TOK Go.Proofs.Tryz.prog 91 ti91 := ⟨Go.Proofs.Tryz.underlying91, ⟨_, _, rfl, rfl, rfl, rfl, rfl⟩, rfl, rfl, .inl rfl, by decide⟩
def ti92 : TI := ⟨.slice 96, 1, 24, [.imm 0 5 true []], []⟩
theorem tok92 : TOK Go.Proofs.Tryz.prog 92 ti92 := ⟨Go.Proofs.Tryz.underlying92, ⟨_, _, rfl, rfl, rfl, rfl, rfl⟩, rfl, rfl, .inl rfl, by decide⟩
def ti95 : TI := ⟨.struct #[{ name := "Name", type := 9, offset := 0, embedded := false, tag := "", pkgPath := "", byteOffset := 0 }, { name := "Type", type := 27, offset := 1, embedded := false, tag := "", pkgPath := "", byteOffset := 16 }], 5, 72, [.str ⟨#[]⟩, .int .i64 0, .int .i64 0, .str ⟨#[]⟩, .imm 0 4 true []], [(0, 1), (1, 4)]⟩
theorem tok95 : TOK Go.Proofs.Tryz.prog 95 ti95 := ⟨Go.Proofs.Tryz.underlying95, ⟨_, _, rfl, rfl, rfl, rfl, rfl⟩, rfl, rfl, .inr ⟨_, rfl, ⟨⟨_, rfl, rfl, rfl, by decide⟩, ⟨_, rfl, rfl, rfl, by decide⟩, trivial⟩, rfl⟩, by decide⟩
def ti96 : TI := ⟨.struct #[{ name := "Name", type := 9, offset := 0, embedded := false, tag := "", pkgPath := "", byteOffset := 0 }, { name := "Type", type := 27, offset := 1, embedded := false, tag := "", pkgPath := "", byteOffset := 16 }], 5, 72, [.str ⟨#[]⟩, .int .i64 0, .int .i64 0, .str ⟨#[]⟩, .imm 0 4 true []], [(0, 1), (1, 4)]⟩
theorem tok96 : TOK Go.Proofs.Tryz.prog 96 ti96 := ⟨Go.Proofs.Tryz.underlying96, ⟨_, _, rfl, rfl, rfl, rfl, rfl⟩, rfl, rfl, .inr ⟨_, rfl, ⟨⟨_, rfl, rfl, rfl, by decide⟩, ⟨_, rfl, rfl, rfl, by decide⟩, trivial⟩, rfl⟩, by decide⟩
def ti99 : TI := ⟨.struct #[{ name := "left", type := 3, offset := 0, embedded := false, tag := "", pkgPath := "loop.example/g00091/impl", byteOffset := 0 }, { name := "omit", type := 4, offset := 1, embedded := false, tag := "", pkgPath := "loop.example/g00091/impl", byteOffset := 8 }], 2, 16, [.int .i64 0, .bool false], [(0, 1), (1, 1)]⟩
theorem tok99 : TOK Go.Proofs.Tryz.prog 99 ti99 := ⟨Go.Proofs.Tryz.underlying99, ⟨_, _, rfl, rfl, rfl, rfl, rfl⟩, rfl, rfl, .inr ⟨_, rfl, ⟨⟨_, rfl, rfl, rfl, by decide⟩, ⟨_, rfl, rfl, rfl, by decide⟩, trivial⟩, rfl⟩, by decide⟩
def ti100 : TI := ⟨.struct #[{ name := "left", type := 3, offset := 0, embedded := false, tag := "", pkgPath := "loop.example/g00091/impl", byteOffset := 0 }, { name := "omit", type := 4, offset := 1, embedded := false, tag := "", pkgPath := "loop.example/g00091/impl", byteOffset := 8 }], 2, 16, [.int .i64 0, .bool false], [(0, 1), (1, 1)]⟩
theorem tok100 : TOK Go.Proofs.Tryz.prog 100 ti100 := ⟨Go.Proofs.Tryz.underlying100, ⟨_, _, rfl, rfl, rfl, rfl, rfl⟩, rfl, rfl, .inr ⟨_, rfl, ⟨⟨_, rfl, rfl, rfl, by decide⟩, ⟨_, rfl, rfl, rfl, by decide⟩, trivial⟩, rfl⟩, by decide⟩
def ti103 : TI := ⟨.pointer 27, 1, 8, [.nilp], []⟩
theorem tok103 : TOK Go.Proofs.Tryz.prog 103 ti103 := ⟨Go.Proofs.Tryz.underlying103, ⟨_, _, rfl, rfl, rfl, rfl, rfl⟩, rfl, rfl, .inl rfl, by decide⟩
def ti109 : TI := ⟨.func #[103, 3] #[4] false, 1, 8, [.nilfn], []⟩
theorem tok109 : TOK Go.Proofs.Tryz.prog 109 ti109 := ⟨Go.Proofs.Tryz.underlying109, ⟨_, _, rfl, rfl, rfl, rfl, rfl⟩, rfl, rfl, .inl rfl, by decide⟩
def ti122 : TI := ⟨.pointer 118, 1, 8, [.nilp], []⟩
theorem tok122 : TOK Go.Proofs.Tryz.prog 122 ti122 := ⟨Go.Proofs.Tryz.underlying122, ⟨_, _, rfl, rfl, rfl, rfl, rfl⟩, rfl, rfl, .inl rfl, by decide⟩

def Γ : TTab := [(1, ti1), (3, ti3), (4, ti4), (5, ti5), (9, ti9), (20, ti20), (21, ti21), (22, ti22), (23, ti23), (26, ti26), (27, ti27), (33, ti33), (36, ti36), (37, ti37), (38, ti38), (44, ti44), (54, ti54), (55, ti55), (56, ti56), (58, ti58), (66, ti66), (68, ti68), (69, ti69), (73, ti73), (76, ti76), (77, ti77), (80, ti80), (88, ti88), (91, ti91), (92, ti92), (95, ti95), (96, ti96), (99, ti99), (100, ti100), (103, ti103), (109, ti109), (122, ti122)]
theorem hG : GOK Go.Proofs.Tryz.prog Γ := GOK.cons tok1 (GOK.cons tok3 (GOK.cons tok4 (GOK.cons tok5 (GOK.cons tok9 (GOK.cons tok20 (GOK.cons tok21 (GOK.cons tok22 (GOK.cons tok23 (GOK.cons tok26 (GOK.cons tok27 (GOK.cons tok33 (GOK.cons tok36 (GOK.cons tok37 (GOK.cons tok38 (GOK.cons tok44 (GOK.cons tok54 (GOK.cons tok55 (GOK.cons tok56 (GOK.cons tok58 (GOK.cons tok66 (GOK.cons tok68 (GOK.cons tok69 (GOK.cons tok73 (GOK.cons tok76 (GOK.cons tok77 (GOK.cons tok80 (GOK.cons tok88 (GOK.cons tok91 (GOK.cons tok92 (GOK.cons tok95 (GOK.cons tok96 (GOK.cons tok99 (GOK.cons tok100 (GOK.cons tok103 (GOK.cons tok109 (GOK.cons tok122 (GOK.nil _)))))))))))))))))))))))))))))))))))))
theorem mixed : Go.Proofs.Tryz.prog.follows .mixedOrders = true := rfl

end Go.Am.YtoajlhhalpldfaaGreatDoor
