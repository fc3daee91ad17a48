/- The table of types of this program: what the abstract memory logic knows of each. Written by a program of ours. -/
import Derived.Test.YtiobknkpdkkikabDoorProg
import Derived.Test.YtiobknkpdkkikabDoorAm1
namespace Go.Am.YtiobknkpdkkikabDoor
open Go Go.Am
set_option maxRecDepth 100000

def ti1 : TI := ⟨.func #[] #[] false, 1, 8, [.nilfn], []⟩
theorem tok1 : TOK Go.Proofs.Tryd.prog 1 ti1 := ⟨Go.Proofs.Tryd.underlying1, ⟨_, _, rfl, rfl, rfl, rfl, rfl⟩, rfl, rfl, .inl rfl, by decide⟩
def ti3 : TI := ⟨.int .i64, 1, 8, [.int .i64 0], []⟩
theorem tok3 : TOK Go.Proofs.Tryd.prog 3 ti3 := ⟨Go.Proofs.Tryd.underlying3, ⟨_, _, rfl, rfl, rfl, rfl, rfl⟩, rfl, rfl, .inl rfl, by decide⟩
def ti4 : TI := ⟨.bool, 1, 1, [.bool false], []⟩
theorem tok4 : TOK Go.Proofs.Tryd.prog 4 ti4 := ⟨Go.Proofs.Tryd.underlying4, ⟨_, _, rfl, rfl, rfl, rfl, rfl⟩, rfl, rfl, .inl rfl, by decide⟩
def ti5 : TI := ⟨.int .u8, 1, 1, [.int .u8 0], []⟩
theorem tok5 : TOK Go.Proofs.Tryd.prog 5 ti5 := ⟨Go.Proofs.Tryd.underlying5, ⟨_, _, rfl, rfl, rfl, rfl, rfl⟩, rfl, rfl, .inl rfl, by decide⟩
def ti9 : TI := ⟨.string, 1, 16, [.str ⟨#[]⟩], []⟩
theorem tok9 : TOK Go.Proofs.Tryd.prog 9 ti9 := ⟨Go.Proofs.Tryd.underlying9, ⟨_, _, rfl, rfl, rfl, rfl, rfl⟩, rfl, rfl, .inl rfl, by decide⟩
def ti20 : TI := ⟨.interface #[], 1, 16, [.nilif], []⟩
theorem tok20 : TOK Go.Proofs.Tryd.prog 20 ti20 := ⟨Go.Proofs.Tryd.underlying20, ⟨_, _, rfl, rfl, rfl, rfl, rfl⟩, rfl, rfl, .inl rfl, by decide⟩
def ti21 : TI := ⟨.int .i32, 1, 4, [.int .i32 0], []⟩
theorem tok21 : TOK Go.Proofs.Tryd.prog 21 ti21 := ⟨Go.Proofs.Tryd.underlying21, ⟨_, _, rfl, rfl, rfl, rfl, rfl⟩, rfl, rfl, .inl rfl, by decide⟩
def ti22 : TI := ⟨.slice 24, 1, 24, [.imm 0 4 true []], []⟩
theorem tok22 : TOK Go.Proofs.Tryd.prog 22 ti22 := ⟨Go.Proofs.Tryd.underlying22, ⟨_, _, rfl, rfl, rfl, rfl, rfl⟩, rfl, rfl, .inl rfl, by decide⟩
def ti23 : TI := ⟨.struct #[{ name := "Kind", type := 3, offset := 0, embedded := false, tag := "", pkgPath := "", byteOffset := 0 }, { name := "N", type := 3, offset := 1, embedded := false, tag := "", pkgPath := "", byteOffset := 8 }, { name := "Name", type := 9, offset := 2, embedded := false, tag := "", pkgPath := "", byteOffset := 16 }, { name := "Kids", type := 22, offset := 3, embedded := false, tag := "", pkgPath := "", byteOffset := 32 }], 4, 56, [.int .i64 0, .int .i64 0, .str ⟨#[]⟩, .imm 0 4 true []], [(0, 1), (1, 1), (2, 1), (3, 1)]⟩
theorem tok23 : TOK Go.Proofs.Tryd.prog 23 ti23 := ⟨Go.Proofs.Tryd.underlying23, ⟨_, _, rfl, rfl, rfl, rfl, rfl⟩, rfl, rfl, .inr ⟨_, rfl, ⟨⟨_, rfl, rfl, rfl, by decide⟩, ⟨_, rfl, rfl, rfl, by decide⟩, ⟨_, rfl, rfl, rfl, by decide⟩, ⟨_, rfl, rfl, rfl, by decide⟩, trivial⟩, rfl⟩, by decide⟩
def ti24 : TI := ⟨.struct #[{ name := "Kind", type := 3, offset := 0, embedded := false, tag := "", pkgPath := "", byteOffset := 0 }, { name := "N", type := 3, offset := 1, embedded := false, tag := "", pkgPath := "", byteOffset := 8 }, { name := "Name", type := 9, offset := 2, embedded := false, tag := "", pkgPath := "", byteOffset := 16 }, { name := "Kids", type := 22, offset := 3, embedded := false, tag := "", pkgPath := "", byteOffset := 32 }], 4, 56, [.int .i64 0, .int .i64 0, .str ⟨#[]⟩, .imm 0 4 true []], [(0, 1), (1, 1), (2, 1), (3, 1)]⟩
theorem tok24 : TOK Go.Proofs.Tryd.prog 24 ti24 := ⟨Go.Proofs.Tryd.underlying24, ⟨_, _, rfl, rfl, rfl, rfl, rfl⟩, rfl, rfl, .inr ⟨_, rfl, ⟨⟨_, rfl, rfl, rfl, by decide⟩, ⟨_, rfl, rfl, rfl, by decide⟩, ⟨_, rfl, rfl, rfl, by decide⟩, ⟨_, rfl, rfl, rfl, by decide⟩, trivial⟩, rfl⟩, by decide⟩
def ti27 : TI := ⟨.slice 29, 1, 24, [.imm 0 4 true []], []⟩
theorem tok27 : TOK Go.Proofs.Tryd.prog 27 ti27 := ⟨Go.Proofs.Tryd.underlying27, ⟨_, _, rfl, rfl, rfl, rfl, rfl⟩, rfl, rfl, .inl rfl, by decide⟩
def ti28 : TI := ⟨.struct #[{ name := "Kind", type := 3, offset := 0, embedded := false, tag := "", pkgPath := "", byteOffset := 0 }, { name := "N", type := 3, offset := 1, embedded := false, tag := "", pkgPath := "", byteOffset := 8 }, { name := "Name", type := 9, offset := 2, embedded := false, tag := "", pkgPath := "", byteOffset := 16 }, { name := "Kids", type := 27, offset := 3, embedded := false, tag := "", pkgPath := "", byteOffset := 32 }], 4, 56, [.int .i64 0, .int .i64 0, .str ⟨#[]⟩, .imm 0 4 true []], [(0, 1), (1, 1), (2, 1), (3, 1)]⟩
theorem tok28 : TOK Go.Proofs.Tryd.prog 28 ti28 := ⟨Go.Proofs.Tryd.underlying28, ⟨_, _, rfl, rfl, rfl, rfl, rfl⟩, rfl, rfl, .inr ⟨_, rfl, ⟨⟨_, rfl, rfl, rfl, by decide⟩, ⟨_, rfl, rfl, rfl, by decide⟩, ⟨_, rfl, rfl, rfl, by decide⟩, ⟨_, rfl, rfl, rfl, by decide⟩, trivial⟩, rfl⟩, by decide⟩
def ti29 : TI := ⟨.struct #[{ name := "Kind", type := 3, offset := 0, embedded := false, tag := "", pkgPath := "", byteOffset := 0 }, { name := "N", type := 3, offset := 1, embedded := false, tag := "", pkgPath := "", byteOffset := 8 }, { name := "Name", type := 9, offset := 2, embedded := false, tag := "", pkgPath := "", byteOffset := 16 }, { name := "Kids", type := 27, offset := 3, embedded := false, tag := "", pkgPath := "", byteOffset := 32 }], 4, 56, [.int .i64 0, .int .i64 0, .str ⟨#[]⟩, .imm 0 4 true []], [(0, 1), (1, 1), (2, 1), (3, 1)]⟩
theorem tok29 : TOK Go.Proofs.Tryd.prog 29 ti29 := ⟨Go.Proofs.Tryd.underlying29, ⟨_, _, rfl, rfl, rfl, rfl, rfl⟩, rfl, rfl, .inr ⟨_, rfl, ⟨⟨_, rfl, rfl, rfl, by decide⟩, ⟨_, rfl, rfl, rfl, by decide⟩, ⟨_, rfl, rfl, rfl, by decide⟩, ⟨_, rfl, rfl, rfl, by decide⟩, trivial⟩, rfl⟩, by decide⟩
def ti41 : TI := ⟨.func #[29] #[4] false, 1, 8, [.nilfn], []⟩
theorem tok41 : TOK Go.Proofs.Tryd.prog 41 ti41 := ⟨Go.Proofs.Tryd.underlying41, ⟨_, _, rfl, rfl, rfl, rfl, rfl⟩, rfl, rfl, .inl rfl, by decide⟩
def ti43 : TI := ⟨.pointer 45, 1, 8, [.nilp], []⟩
theorem tok43 : TOK Go.Proofs.Tryd.prog 43 ti43 := ⟨Go.Proofs.Tryd.underlying43, ⟨_, _, rfl, rfl, rfl, rfl, rfl⟩, rfl, rfl, .inl rfl, by decide⟩
def ti44 : TI := ⟨.struct #[{ name := "steps", type := 3, offset := 0, embedded := false, tag := "", pkgPath := "loop.example/g00091/spec", byteOffset := 0 }], 1, 8, [.int .i64 0], [(0, 1)]⟩
theorem tok44 : TOK Go.Proofs.Tryd.prog 44 ti44 := ⟨Go.Proofs.Tryd.underlying44, ⟨_, _, rfl, rfl, rfl, rfl, rfl⟩, rfl, rfl, .inr ⟨_, rfl, ⟨⟨_, rfl, rfl, rfl, by decide⟩, trivial⟩, rfl⟩, by decide⟩
def ti45 : TI := ⟨.struct #[{ name := "steps", type := 3, offset := 0, embedded := false, tag := "", pkgPath := "loop.example/g00091/spec", byteOffset := 0 }], 1, 8, [.int .i64 0], [(0, 1)]⟩
theorem tok45 : TOK Go.Proofs.Tryd.prog 45 ti45 := ⟨Go.Proofs.Tryd.underlying45, ⟨_, _, rfl, rfl, rfl, rfl, rfl⟩, rfl, rfl, .inr ⟨_, rfl, ⟨⟨_, rfl, rfl, rfl, by decide⟩, trivial⟩, rfl⟩, by decide⟩
def ti49 : TI := ⟨.pointer 51, 1, 8, [.nilp], []⟩
theorem tok49 : TOK Go.Proofs.Tryd.prog 49 ti49 := ⟨Go.Proofs.Tryd.underlying49, ⟨_, _, rfl, rfl, rfl, rfl, rfl⟩, rfl, rfl, .inl rfl, by decide⟩
def ti50 : TI := ⟨.struct #[{ name := "steps", type := 3, offset := 0, embedded := false, tag := "", pkgPath := "loop.example/g00091/impl", byteOffset := 0 }], 1, 8, [.int .i64 0], [(0, 1)]⟩
theorem tok50 : TOK Go.Proofs.Tryd.prog 50 ti50 := ⟨Go.Proofs.Tryd.underlying50, ⟨_, _, rfl, rfl, rfl, rfl, rfl⟩, rfl, rfl, .inr ⟨_, rfl, ⟨⟨_, rfl, rfl, rfl, by decide⟩, trivial⟩, rfl⟩, by decide⟩
def ti51 : TI := ⟨.struct #[{ name := "steps", type := 3, offset := 0, embedded := false, tag := "", pkgPath := "loop.example/g00091/impl", byteOffset := 0 }], 1, 8, [.int .i64 0], [(0, 1)]⟩
theorem tok51 : TOK Go.Proofs.Tryd.prog 51 ti51 := ⟨Go.Proofs.Tryd.underlying51, ⟨_, _, rfl, rfl, rfl, rfl, rfl⟩, rfl, rfl, .inr ⟨_, rfl, ⟨⟨_, rfl, rfl, rfl, by decide⟩, trivial⟩, rfl⟩, by decide⟩
def ti53 : TI := ⟨.func #[] #[29] false, 1, 8, [.nilfn], []⟩
theorem tok53 : TOK Go.Proofs.Tryd.prog 53 ti53 := ⟨Go.Proofs.Tryd.underlying53, ⟨_, _, rfl, rfl, rfl, rfl, rfl⟩, rfl, rfl, .inl rfl, by decide⟩
def ti59 : TI := ⟨.slice 3, 1, 24, [.imm 0 1 true []], []⟩
theorem tok59 : TOK Go.Proofs.Tryd.prog 59 ti59 := ⟨Go.Proofs.Tryd.underlying59, ⟨_, _, rfl, rfl, rfl, rfl, rfl⟩, rfl, rfl, .inl rfl, by decide⟩
def ti62 : TI := ⟨.struct #[{ name := "code", type := 3, offset := 0, embedded := false, tag := "", pkgPath := "loop.example/g00091/impl", byteOffset := 0 }, { name := "place", type := 3, offset := 1, embedded := false, tag := "", pkgPath := "loop.example/g00091/impl", byteOffset := 8 }], 2, 16, [.int .i64 0, .int .i64 0], [(0, 1), (1, 1)]⟩
theorem tok62 : TOK Go.Proofs.Tryd.prog 62 ti62 := ⟨Go.Proofs.Tryd.underlying62, ⟨_, _, rfl, rfl, rfl, rfl, rfl⟩, rfl, rfl, .inr ⟨_, rfl, ⟨⟨_, rfl, rfl, rfl, by decide⟩, ⟨_, rfl, rfl, rfl, by decide⟩, trivial⟩, rfl⟩, by decide⟩
def ti63 : TI := ⟨.struct #[{ name := "code", type := 3, offset := 0, embedded := false, tag := "", pkgPath := "loop.example/g00091/impl", byteOffset := 0 }, { name := "place", type := 3, offset := 1, embedded := false, tag := "", pkgPath := "loop.example/g00091/impl", byteOffset := 8 }], 2, 16, [.int .i64 0, .int .i64 0], [(0, 1), (1, 1)]⟩
theorem tok63 : TOK Go.Proofs.Tryd.prog 63 ti63 := ⟨Go.Proofs.Tryd.underlying63, ⟨_, _, rfl, rfl, rfl, rfl, rfl⟩, rfl, rfl, .inr ⟨_, rfl, ⟨⟨_, rfl, rfl, rfl, by decide⟩, ⟨_, rfl, rfl, rfl, by decide⟩, trivial⟩, rfl⟩, by decide⟩
def ti66 : TI := ⟨.slice 5, 1, 24, [.imm 0 1 true []], []⟩
theorem tok66 : TOK Go.Proofs.Tryd.prog 66 ti66 := ⟨Go.Proofs.Tryd.underlying66, ⟨_, _, rfl, rfl, rfl, rfl, rfl⟩, rfl, rfl, .inl rfl, by decide⟩
def ti69 : TI := ⟨.pointer 77, 1, 8, [.nilp], []⟩
theorem tok69 : TOK Go.Proofs.Tryd.prog 69 ti69 := ⟨Go.Proofs.Tryd.underlying69, ⟨_, _, rfl, rfl, rfl, rfl, rfl⟩, rfl, rfl, .inl rfl, by decide⟩
def ti76 : TI := ⟨.struct #[{ name := "left", type := 3, offset := 0, embedded := false, tag := "", pkgPath := "loop.example/g00091/impl", byteOffset := 0 }, { name := "omit", type := 4, offset := 1, embedded := false, tag := "", pkgPath := "loop.example/g00091/impl", byteOffset := 8 }], 2, 16, [.int .i64 0, .bool false], [(0, 1), (1, 1)]⟩
theorem tok76 : TOK Go.Proofs.Tryd.prog 76 ti76 := ⟨Go.Proofs.Tryd.underlying76, ⟨_, _, rfl, rfl, rfl, rfl, rfl⟩, rfl, rfl, .inr ⟨_, rfl, ⟨⟨_, rfl, rfl, rfl, by decide⟩, ⟨_, rfl, rfl, rfl, by decide⟩, trivial⟩, rfl⟩, by decide⟩
def ti77 : TI := ⟨.struct #[{ name := "left", type := 3, offset := 0, embedded := false, tag := "", pkgPath := "loop.example/g00091/impl", byteOffset := 0 }, { name := "omit", type := 4, offset := 1, embedded := false, tag := "", pkgPath := "loop.example/g00091/impl", byteOffset := 8 }], 2, 16, [.int .i64 0, .bool false], [(0, 1), (1, 1)]⟩
theorem tok77 : TOK Go.Proofs.Tryd.prog 77 ti77 := ⟨Go.Proofs.Tryd.underlying77, ⟨_, _, rfl, rfl, rfl, rfl, rfl⟩, rfl, rfl, .inr ⟨_, rfl, ⟨⟨_, rfl, rfl, rfl, by decide⟩, ⟨_, rfl, rfl, rfl, by decide⟩, trivial⟩, rfl⟩, by decide⟩
def ti81 : TI := ⟨.pointer 29, 1, 8, [.nilp], []⟩
theorem tok81 : TOK Go.Proofs.Tryd.prog 81 ti81 := ⟨Go.Proofs.Tryd.underlying81, ⟨_, _, rfl, rfl, rfl, rfl, rfl⟩, rfl, rfl, .inl rfl, by decide⟩
def ti83 : TI := ⟨.func #[29, 3] #[29] false, 1, 8, [.nilfn], []⟩
theorem tok83 : TOK Go.Proofs.Tryd.prog 83 ti83 := ⟨Go.Proofs.Tryd.underlying83, ⟨_, _, rfl, rfl, rfl, rfl, rfl⟩, rfl, rfl, .inl rfl, by decide⟩
def ti89 : TI := ⟨.func #[81, 3] #[4] false, 1, 8, [.nilfn], []⟩
theorem tok89 : TOK Go.Proofs.Tryd.prog 89 ti89 := ⟨Go.Proofs.Tryd.underlying89, ⟨_, _, rfl, rfl, rfl, rfl, rfl⟩, rfl, rfl, .inl rfl, by decide⟩
def ti98 : TI := ⟨.pointer 94, 1, 8, [.nilp], []⟩
theorem tok98 : TOK Go.Proofs.Tryd.prog 98 ti98 := ⟨Go.Proofs.Tryd.underlying98, ⟨_, _, rfl, rfl, rfl, rfl, rfl⟩, rfl, rfl, .inl rfl, by decide⟩

def Γ : TTab := [(1, ti1), (3, ti3), (4, ti4), (5, ti5), (9, ti9), (20, ti20), (21, ti21), (22, ti22), (23, ti23), (24, ti24), (27, ti27), (28, ti28), (29, ti29), (41, ti41), (43, ti43), (44, ti44), (45, ti45), (49, ti49), (50, ti50), (51, ti51), (53, ti53), (59, ti59), (62, ti62), (63, ti63), (66, ti66), (69, ti69), (76, ti76), (77, ti77), (81, ti81), (83, ti83), (89, ti89), (98, ti98)]
theorem hG : GOK Go.Proofs.Tryd.prog Γ := GOK.cons tok1 (GOK.cons tok3 (GOK.cons tok4 (GOK.cons tok5 (GOK.cons tok9 (GOK.cons tok20 (GOK.cons tok21 (GOK.cons tok22 (GOK.cons tok23 (GOK.cons tok24 (GOK.cons tok27 (GOK.cons tok28 (GOK.cons tok29 (GOK.cons tok41 (GOK.cons tok43 (GOK.cons tok44 (GOK.cons tok45 (GOK.cons tok49 (GOK.cons tok50 (GOK.cons tok51 (GOK.cons tok53 (GOK.cons tok59 (GOK.cons tok62 (GOK.cons tok63 (GOK.cons tok66 (GOK.cons tok69 (GOK.cons tok76 (GOK.cons tok77 (GOK.cons tok81 (GOK.cons tok83 (GOK.cons tok89 (GOK.cons tok98 (GOK.nil _))))))))))))))))))))))))))))))))
theorem mixed : Go.Proofs.Tryd.prog.follows .mixedOrders = true := rfl

end Go.Am.YtiobknkpdkkikabDoor
