/- Printed by a program of ours: Lean functions that do what the Go functions do, and the contracts. -/
import Derived.Test.YtpkeophkdemcpaaTypes
import Derived.Test.YtpkeophkdemcpaaMi4
import Derived.Test.YtpkeophkdemcpaaMc1
import Derived.Test.YtpkeophkdemcpaaMb3
import Derived.Test.YtpkeophkdemcpaaMb1
import Derived.Test.YtpkeophkdemcpaaGs0
import Derived.Test.YtpkeophkdemcpaaMz
-- packed
namespace Go.Am.Ytpkeophkdemcpaa
open Go Go.Am

def s_l00Src_byte (z1 : (List Int × Int × Int)) : Option (Int × (List Int × Int × Int)) :=
 if (IntKind.i64.wrap (z1.2.1 + 1)) ≤ ((z1.1).length : Int) then
  (idx z1.1 (IntKind.i64.wrap ((IntKind.i64.wrap (z1.2.1 + 1)) - 1))).bind fun y6 =>
  (idx z1.1 (IntKind.i64.wrap ((IntKind.i64.wrap (z1.2.1 + 1)) - 1))).bind fun y11 =>
  some ((IntKind.i64.wrap y11), (z1.1, (IntKind.i64.wrap (z1.2.1 + 1)), (Int.tmod (IntKind.i64.wrap ((IntKind.i64.wrap ((IntKind.i64.wrap (z1.2.2 * 31)) + (IntKind.i64.wrap y6))) + 7)) 2147483648)))
 else
  if (IntKind.i64.wrap (z1.2.1 + 1)) > 3000 then
   some (0, (z1.1, (IntKind.i64.wrap (z1.2.1 + 1)), z1.2.2))
  else
   some ((Int.tmod (IntKind.i64.wrap (Int.tdiv (Int.tmod (IntKind.i64.wrap ((IntKind.i64.wrap (z1.2.2 * 1103515245)) + 12345)) 2147483648) 65536)) 256), (z1.1, (IntKind.i64.wrap (z1.2.1 + 1)), (Int.tmod (IntKind.i64.wrap ((IntKind.i64.wrap (z1.2.2 * 1103515245)) + 12345)) 2147483648)))

set_option maxHeartbeats 20000000 in
set_option maxHeartbeats 20000000 in
set_option maxRecDepth 100000 in
theorem s_l00Src_byte_ok : ∀ (X0 : ID) (f2 : Bool) (l2 : List Int) (i3 : Int) (i4 : Int) {r : (Int × (List Int × Int × Int))}, s_l00Src_byte (l2, i3, i4) = some r → ∀ (O : Heap) (tk : Nat), O X0 = some ⟨156, 3, true, [[.imm 0 1 f2 ((l2 : List Int).map fun n => [AV.int .u8 n]), .int .i64 i3, .int .i64 i4]]⟩ → ACalls Go.Proofs.Try.prog 122 [.optr X0 0 0] O tk (RetV O X0 tk (fun v o' tk' => ∃ r0', ∃ (c0f : Bool) (c0 : List Int) (c1 : Int) (c2 : Int) , r = (r0', (c0, c1, c2)) ∧ o' = ⟨156, 3, true, [[.imm 0 1 c0f ((c0 : List Int).map fun n => [AV.int .u8 n]), .int .i64 c1, .int .i64 c2]]⟩ ∧ v = .int .i64 r0')) := by
 intro X0 f2 l2 i3 i4 r hM O tk hX0
 unfold s_l00Src_byte at hM
 refine acalls_of_run Go.Proofs.Try.func122 rfl rfl [X0] [⟨156, 3, true, [[.imm 0 1 f2 ((l2 : List Int).map fun n => [AV.int .u8 n]), .int .i64 i3, .int .i64 i4]]⟩] (Bor.one hX0 rfl) [(0, .optr (.bor 0) 0 0)] (.cons (.bor 0 _ _ _ rfl) (.nil _)) (leb rfl) (by intro y h; simp only [List.mem_cons, List.not_mem_nil, or_false] at h; rcases h with rfl <;> simp [tch, tch0]) (fun S0 hO htk hfz => ?_)
 refine run_sr ?_
 refine yR rfl ?_
 refine yN ?_
 refine run_sr ?_
 refine yL rfl ?_
 refine run_pu rfl (nilCheck_step rfl rfl ⟨_, rfl⟩) rfl (ltb rfl) ?_
 refine yF hG rfl ?_
 refine yD hG rfl ?_
 refine yB rfl ?_
 refine run_pu rfl (nilCheck_step rfl rfl ⟨_, rfl⟩) rfl (ltb rfl) ?_
 refine yF hG rfl ?_
 refine yS hG rfl ?_
 refine yN ?_
 refine run_seq ?_
 refine run_seq ?_
 refine run_draw [] (n := 10) mixed rfl yE ?_
 refine yTV 0 (by kernel_rfl) rfl ?_
 refine yT 1 (by kernel_rfl) rfl rfl rfl (ltb rfl) ((nilCheck_step rfl rfl ⟨_, rfl⟩).rd _) ?_
 refine yTF hG 2 (by kernel_rfl) rfl ?_
 refine yTL hG 3 (by kernel_rfl) rfl ?_
 refine yTV 4 (by kernel_rfl) rfl ?_
 refine yT 5 (by kernel_rfl) rfl rfl rfl (ltb rfl) ((nilCheck_step rfl rfl ⟨_, rfl⟩).rd _) ?_
 refine yTF hG 6 (by kernel_rfl) rfl ?_
 refine yTL hG 7 (by kernel_rfl) rfl ?_
 refine yT 8 (by kernel_rfl) rfl rfl rfl (ltb rfl) ((lenImm_step hG rfl rfl rfl rfl (ilen _)).rd _) ?_
 refine yT 9 (by kernel_rfl) rfl rfl rfl (ltb rfl) ((abin_step rfl rfl rfl rfl (fun _ h => by cases h)).rd _) ?_
 refine AAny.done (by kernel_rfl) ?_
 refine run_sub_code (σ' := ⟨[(0, .optr (.bor 0) 0 0), (2, .int .i64 0), (19, .bool (decide ((IntKind.i64.wrap (i3 + 1)) ≤ ((l2).length : Int))))], [], [⟨156, 3, true, [[.imm 0 1 f2 ((l2 : List Int).map fun n => [AV.int .u8 n]), .int .i64 (IntKind.i64.wrap (i3 + 1)), .int .i64 i4]]⟩], O, tk⟩) (Sub.env _ ⟨rfl, rfl, rfl, trivial⟩) ?_
 refine run_ifd rfl rfl (fun hb5 => ?_) (fun hb5 => ?_)
 ·replace hM := ite_t hb5 hM
  refine run_seq ?_
  refine run_draw [.bor 0] (n := 24) mixed rfl (by intro x hx; simp only [List.mem_cons, List.not_mem_nil, or_false] at hx; rcases hx with rfl <;> rfl) ?_
  refine yTV 0 (by kernel_rfl) rfl ?_
  refine yTV 1 (by kernel_rfl) rfl ?_
  refine yT 2 (by kernel_rfl) rfl rfl rfl (ltb rfl) ((nilCheck_step rfl rfl ⟨_, rfl⟩).rd _) ?_
  refine yTF hG 3 (by kernel_rfl) rfl ?_
  refine yTV 6 (by kernel_rfl) rfl ?_
  refine yT 7 (by kernel_rfl) rfl rfl rfl (ltb rfl) ((nilCheck_step rfl rfl ⟨_, rfl⟩).rd _) ?_
  refine yTF hG 8 (by kernel_rfl) rfl ?_
  refine yTV 10 (by kernel_rfl) rfl ?_
  refine yT 11 (by kernel_rfl) rfl rfl rfl (ltb rfl) ((nilCheck_step rfl rfl ⟨_, rfl⟩).rd _) ?_
  refine yTF hG 12 (by kernel_rfl) rfl ?_
  refine AAny.each (rs := [4, 9, 13]) (by kernel_rfl) (fun h => by cases h) (fun i hi => ?_)
  simp only [List.mem_cons, List.not_mem_nil, or_false] at hi
  rcases hi with rfl | rfl | rfl
  ·refine AOp.rd rfl rfl rfl (ltb rfl) (aload_rd hG rfl rfl rfl (by first | (simp [ldok]; done) | exact List.not_mem_nil | trivial)) ?_
   refine yT 5 (by kernel_rfl) rfl rfl rfl (ltb rfl) ((abin_step rfl rfl rfl rfl (fun _ h => by cases h)).rd _) ?_
   refine AAny.each (rs := [9, 13]) (by kernel_rfl) (fun h => by cases h) (fun i hi => ?_)
   simp only [List.mem_cons, List.not_mem_nil, or_false] at hi
   rcases hi with rfl | rfl
   ·refine AOp.rd rfl rfl rfl (ltb rfl) (aload_rd hG rfl rfl rfl (by first | (simp [ldok]; done) | exact List.not_mem_nil | trivial)) ?_
    refine AAny.one (i := 13) (by kernel_rfl) (AOp.rd rfl rfl rfl (ltb rfl) (aload_rd hG rfl rfl rfl (by first | (simp [ldok]; done) | exact List.not_mem_nil | trivial)) ?_)
    refine yT 14 (by kernel_rfl) rfl rfl rfl (ltb rfl) ((abin_step rfl rfl rfl rfl (fun _ h => by cases h)).rd _) ?_
    obtain ⟨y6, hy7, hM⟩ := bind_t hM
    obtain ⟨hc9, hi10⟩ := iidx (k := .u8) hy7
    refine yT 15 (by kernel_rfl) rfl rfl rfl (ltb rfl) ((indexImm_step hG rfl rfl rfl hi10 rfl rfl rfl rfl hc9).rd _) ?_
    refine yTL hG 16 (by kernel_rfl) rfl ?_
    refine yT 17 (by kernel_rfl) rfl rfl rfl (ltb rfl) ((convInt_step hG rfl rfl rfl rfl rfl).rd _) ?_
    refine yT 18 (by kernel_rfl) rfl rfl rfl (ltb rfl) ((abin_step rfl rfl rfl rfl (fun _ h => by cases h)).rd _) ?_
    refine yT 19 (by kernel_rfl) rfl rfl rfl (ltb rfl) ((abin_step rfl rfl rfl rfl (fun _ h => by cases h)).rd _) ?_
    refine yT 20 (by kernel_rfl) rfl rfl rfl (ltb rfl) ((abin_step rfl rfl rfl rfl (fun _ h => by cases h)).rd _) ?_
    refine yT 21 (by kernel_rfl) rfl rfl rfl (ltb rfl) ((nilCheck_step rfl rfl ⟨_, rfl⟩).rd _) ?_
    refine yTF hG 22 (by kernel_rfl) rfl ?_
    refine yW hG 23 (by kernel_rfl) rfl (by kernel_rfl) rfl ?_
    refine AAny.done (by kernel_rfl) ?_
    refine run_sub_code (σ' := ⟨[(0, .optr (.bor 0) 0 0), (2, .int .i64 0)], [], [⟨156, 3, true, [[.imm 0 1 f2 ((l2 : List Int).map fun n => [AV.int .u8 n]), .int .i64 (IntKind.i64.wrap (i3 + 1)), .int .i64 (Int.tmod (IntKind.i64.wrap ((IntKind.i64.wrap ((IntKind.i64.wrap (i4 * 31)) + (IntKind.i64.wrap y6))) + 7)) 2147483648)]]⟩], O, tk⟩) (Sub.env _ ⟨rfl, rfl, trivial⟩) ?_
    refine run_seq ?_
    refine run_draw [] (n := 13) mixed rfl yE ?_
    refine yTV 0 (by kernel_rfl) rfl ?_
    refine yT 1 (by kernel_rfl) rfl rfl rfl (ltb rfl) ((nilCheck_step rfl rfl ⟨_, rfl⟩).rd _) ?_
    refine yTF hG 2 (by kernel_rfl) rfl ?_
    refine yTL hG 3 (by kernel_rfl) rfl ?_
    refine yTV 4 (by kernel_rfl) rfl ?_
    refine yT 5 (by kernel_rfl) rfl rfl rfl (ltb rfl) ((nilCheck_step rfl rfl ⟨_, rfl⟩).rd _) ?_
    refine yTF hG 6 (by kernel_rfl) rfl ?_
    refine yTL hG 7 (by kernel_rfl) rfl ?_
    refine yT 8 (by kernel_rfl) rfl rfl rfl (ltb rfl) ((abin_step rfl rfl rfl rfl (fun _ h => by cases h)).rd _) ?_
    obtain ⟨y11, hy12, hM⟩ := bind_t hM
    obtain ⟨hc14, hi15⟩ := iidx (k := .u8) hy12
    refine yT 9 (by kernel_rfl) rfl rfl rfl (ltb rfl) ((indexImm_step hG rfl rfl rfl hi15 rfl rfl rfl rfl hc14).rd _) ?_
    refine yTL hG 10 (by kernel_rfl) rfl ?_
    refine yT 11 (by kernel_rfl) rfl rfl rfl (ltb rfl) ((convInt_step hG rfl rfl rfl rfl rfl).rd _) ?_
    refine yTW 12 (by kernel_rfl) rfl ?_
    refine AAny.done (by kernel_rfl) ?_
    refine run_ret_to ?_
    replace hM := some_t hM
    subst hM
    refine fin_x hG rfl rfl rfl (v' := .int .i64 (IntKind.i64.wrap y11)) (by rfl) ⟨_, ⟨156, 3, true, [[.imm 0 1 f2 ((l2 : List Int).map fun n => [AV.int .u8 n]), .int .i64 (IntKind.i64.wrap (i3 + 1)), .int .i64 (Int.tmod (IntKind.i64.wrap ((IntKind.i64.wrap ((IntKind.i64.wrap (i4 * 31)) + (IntKind.i64.wrap y6))) + 7)) 2147483648)]]⟩, rfl, rfl, (show tk ≤ tk by omega), ⟨_, f2, l2, (IntKind.i64.wrap (i3 + 1)), (Int.tmod (IntKind.i64.wrap ((IntKind.i64.wrap ((IntKind.i64.wrap (i4 * 31)) + (IntKind.i64.wrap y6))) + 7)) 2147483648), rfl, rfl, rfl⟩⟩
   refine AOp.rd rfl rfl rfl (ltb rfl) (aload_rd hG rfl rfl rfl (by first | (simp [ldok]; done) | exact List.not_mem_nil | trivial)) ?_
   refine yT 14 (by kernel_rfl) rfl rfl rfl (ltb rfl) ((abin_step rfl rfl rfl rfl (fun _ h => by cases h)).rd _) ?_
   refine AAny.one (i := 9) (by kernel_rfl) (AOp.rd rfl rfl rfl (ltb rfl) (aload_rd hG rfl rfl rfl (by first | (simp [ldok]; done) | exact List.not_mem_nil | trivial)) ?_)
   obtain ⟨y16, hy17, hM⟩ := bind_t hM
   obtain ⟨hc19, hi20⟩ := iidx (k := .u8) hy17
   refine yT 15 (by kernel_rfl) rfl rfl rfl (ltb rfl) ((indexImm_step hG rfl rfl rfl hi20 rfl rfl rfl rfl hc19).rd _) ?_
   refine yTL hG 16 (by kernel_rfl) rfl ?_
   refine yT 17 (by kernel_rfl) rfl rfl rfl (ltb rfl) ((convInt_step hG rfl rfl rfl rfl rfl).rd _) ?_
   refine yT 18 (by kernel_rfl) rfl rfl rfl (ltb rfl) ((abin_step rfl rfl rfl rfl (fun _ h => by cases h)).rd _) ?_
   refine yT 19 (by kernel_rfl) rfl rfl rfl (ltb rfl) ((abin_step rfl rfl rfl rfl (fun _ h => by cases h)).rd _) ?_
   refine yT 20 (by kernel_rfl) rfl rfl rfl (ltb rfl) ((abin_step rfl rfl rfl rfl (fun _ h => by cases h)).rd _) ?_
   refine yT 21 (by kernel_rfl) rfl rfl rfl (ltb rfl) ((nilCheck_step rfl rfl ⟨_, rfl⟩).rd _) ?_
   refine yTF hG 22 (by kernel_rfl) rfl ?_
   refine yW hG 23 (by kernel_rfl) rfl (by kernel_rfl) rfl ?_
   refine AAny.done (by kernel_rfl) ?_
   refine run_sub_code (σ' := ⟨[(0, .optr (.bor 0) 0 0), (2, .int .i64 0)], [], [⟨156, 3, true, [[.imm 0 1 f2 ((l2 : List Int).map fun n => [AV.int .u8 n]), .int .i64 (IntKind.i64.wrap (i3 + 1)), .int .i64 (Int.tmod (IntKind.i64.wrap ((IntKind.i64.wrap ((IntKind.i64.wrap (i4 * 31)) + (IntKind.i64.wrap y16))) + 7)) 2147483648)]]⟩], O, tk⟩) (Sub.env _ ⟨rfl, rfl, trivial⟩) ?_
   refine run_seq ?_
   refine run_draw [] (n := 13) mixed rfl yE ?_
   refine yTV 0 (by kernel_rfl) rfl ?_
   refine yT 1 (by kernel_rfl) rfl rfl rfl (ltb rfl) ((nilCheck_step rfl rfl ⟨_, rfl⟩).rd _) ?_
   refine yTF hG 2 (by kernel_rfl) rfl ?_
   refine yTL hG 3 (by kernel_rfl) rfl ?_
   refine yTV 4 (by kernel_rfl) rfl ?_
   refine yT 5 (by kernel_rfl) rfl rfl rfl (ltb rfl) ((nilCheck_step rfl rfl ⟨_, rfl⟩).rd _) ?_
   refine yTF hG 6 (by kernel_rfl) rfl ?_
   refine yTL hG 7 (by kernel_rfl) rfl ?_
   refine yT 8 (by kernel_rfl) rfl rfl rfl (ltb rfl) ((abin_step rfl rfl rfl rfl (fun _ h => by cases h)).rd _) ?_
   obtain ⟨y21, hy22, hM⟩ := bind_t hM
   obtain ⟨hc24, hi25⟩ := iidx (k := .u8) hy22
   refine yT 9 (by kernel_rfl) rfl rfl rfl (ltb rfl) ((indexImm_step hG rfl rfl rfl hi25 rfl rfl rfl rfl hc24).rd _) ?_
   refine yTL hG 10 (by kernel_rfl) rfl ?_
   refine yT 11 (by kernel_rfl) rfl rfl rfl (ltb rfl) ((convInt_step hG rfl rfl rfl rfl rfl).rd _) ?_
   refine yTW 12 (by kernel_rfl) rfl ?_
   refine AAny.done (by kernel_rfl) ?_
   refine run_ret_to ?_
   replace hM := some_t hM
   subst hM
   refine fin_x hG rfl rfl rfl (v' := .int .i64 (IntKind.i64.wrap y21)) (by rfl) ⟨_, ⟨156, 3, true, [[.imm 0 1 f2 ((l2 : List Int).map fun n => [AV.int .u8 n]), .int .i64 (IntKind.i64.wrap (i3 + 1)), .int .i64 (Int.tmod (IntKind.i64.wrap ((IntKind.i64.wrap ((IntKind.i64.wrap (i4 * 31)) + (IntKind.i64.wrap y16))) + 7)) 2147483648)]]⟩, rfl, rfl, (show tk ≤ tk by omega), ⟨_, f2, l2, (IntKind.i64.wrap (i3 + 1)), (Int.tmod (IntKind.i64.wrap ((IntKind.i64.wrap ((IntKind.i64.wrap (i4 * 31)) + (IntKind.i64.wrap y16))) + 7)) 2147483648), rfl, rfl, rfl⟩⟩
  ·refine AOp.rd rfl rfl rfl (ltb rfl) (aload_rd hG rfl rfl rfl (by first | (simp [ldok]; done) | exact List.not_mem_nil | trivial)) ?_
   refine AAny.each (rs := [4, 13]) (by kernel_rfl) (fun h => by cases h) (fun i hi => ?_)
   simp only [List.mem_cons, List.not_mem_nil, or_false] at hi
   rcases hi with rfl | rfl
   ·refine AOp.rd rfl rfl rfl (ltb rfl) (aload_rd hG rfl rfl rfl (by first | (simp [ldok]; done) | exact List.not_mem_nil | trivial)) ?_
    refine yT 5 (by kernel_rfl) rfl rfl rfl (ltb rfl) ((abin_step rfl rfl rfl rfl (fun _ h => by cases h)).rd _) ?_
    refine AAny.one (i := 13) (by kernel_rfl) (AOp.rd rfl rfl rfl (ltb rfl) (aload_rd hG rfl rfl rfl (by first | (simp [ldok]; done) | exact List.not_mem_nil | trivial)) ?_)
    refine yT 14 (by kernel_rfl) rfl rfl rfl (ltb rfl) ((abin_step rfl rfl rfl rfl (fun _ h => by cases h)).rd _) ?_
    obtain ⟨y26, hy27, hM⟩ := bind_t hM
    obtain ⟨hc29, hi30⟩ := iidx (k := .u8) hy27
    refine yT 15 (by kernel_rfl) rfl rfl rfl (ltb rfl) ((indexImm_step hG rfl rfl rfl hi30 rfl rfl rfl rfl hc29).rd _) ?_
    refine yTL hG 16 (by kernel_rfl) rfl ?_
    refine yT 17 (by kernel_rfl) rfl rfl rfl (ltb rfl) ((convInt_step hG rfl rfl rfl rfl rfl).rd _) ?_
    refine yT 18 (by kernel_rfl) rfl rfl rfl (ltb rfl) ((abin_step rfl rfl rfl rfl (fun _ h => by cases h)).rd _) ?_
    refine yT 19 (by kernel_rfl) rfl rfl rfl (ltb rfl) ((abin_step rfl rfl rfl rfl (fun _ h => by cases h)).rd _) ?_
    refine yT 20 (by kernel_rfl) rfl rfl rfl (ltb rfl) ((abin_step rfl rfl rfl rfl (fun _ h => by cases h)).rd _) ?_
    refine yT 21 (by kernel_rfl) rfl rfl rfl (ltb rfl) ((nilCheck_step rfl rfl ⟨_, rfl⟩).rd _) ?_
    refine yTF hG 22 (by kernel_rfl) rfl ?_
    refine yW hG 23 (by kernel_rfl) rfl (by kernel_rfl) rfl ?_
    refine AAny.done (by kernel_rfl) ?_
    refine run_sub_code (σ' := ⟨[(0, .optr (.bor 0) 0 0), (2, .int .i64 0)], [], [⟨156, 3, true, [[.imm 0 1 f2 ((l2 : List Int).map fun n => [AV.int .u8 n]), .int .i64 (IntKind.i64.wrap (i3 + 1)), .int .i64 (Int.tmod (IntKind.i64.wrap ((IntKind.i64.wrap ((IntKind.i64.wrap (i4 * 31)) + (IntKind.i64.wrap y26))) + 7)) 2147483648)]]⟩], O, tk⟩) (Sub.env _ ⟨rfl, rfl, trivial⟩) ?_
    refine run_seq ?_
    refine run_draw [] (n := 13) mixed rfl yE ?_
    refine yTV 0 (by kernel_rfl) rfl ?_
    refine yT 1 (by kernel_rfl) rfl rfl rfl (ltb rfl) ((nilCheck_step rfl rfl ⟨_, rfl⟩).rd _) ?_
    refine yTF hG 2 (by kernel_rfl) rfl ?_
    refine yTL hG 3 (by kernel_rfl) rfl ?_
    refine yTV 4 (by kernel_rfl) rfl ?_
    refine yT 5 (by kernel_rfl) rfl rfl rfl (ltb rfl) ((nilCheck_step rfl rfl ⟨_, rfl⟩).rd _) ?_
    refine yTF hG 6 (by kernel_rfl) rfl ?_
    refine yTL hG 7 (by kernel_rfl) rfl ?_
    refine yT 8 (by kernel_rfl) rfl rfl rfl (ltb rfl) ((abin_step rfl rfl rfl rfl (fun _ h => by cases h)).rd _) ?_
    obtain ⟨y31, hy32, hM⟩ := bind_t hM
    obtain ⟨hc34, hi35⟩ := iidx (k := .u8) hy32
    refine yT 9 (by kernel_rfl) rfl rfl rfl (ltb rfl) ((indexImm_step hG rfl rfl rfl hi35 rfl rfl rfl rfl hc34).rd _) ?_
    refine yTL hG 10 (by kernel_rfl) rfl ?_
    refine yT 11 (by kernel_rfl) rfl rfl rfl (ltb rfl) ((convInt_step hG rfl rfl rfl rfl rfl).rd _) ?_
    refine yTW 12 (by kernel_rfl) rfl ?_
    refine AAny.done (by kernel_rfl) ?_
    refine run_ret_to ?_
    replace hM := some_t hM
    subst hM
    refine fin_x hG rfl rfl rfl (v' := .int .i64 (IntKind.i64.wrap y31)) (by rfl) ⟨_, ⟨156, 3, true, [[.imm 0 1 f2 ((l2 : List Int).map fun n => [AV.int .u8 n]), .int .i64 (IntKind.i64.wrap (i3 + 1)), .int .i64 (Int.tmod (IntKind.i64.wrap ((IntKind.i64.wrap ((IntKind.i64.wrap (i4 * 31)) + (IntKind.i64.wrap y26))) + 7)) 2147483648)]]⟩, rfl, rfl, (show tk ≤ tk by omega), ⟨_, f2, l2, (IntKind.i64.wrap (i3 + 1)), (Int.tmod (IntKind.i64.wrap ((IntKind.i64.wrap ((IntKind.i64.wrap (i4 * 31)) + (IntKind.i64.wrap y26))) + 7)) 2147483648), rfl, rfl, rfl⟩⟩
   refine AOp.rd rfl rfl rfl (ltb rfl) (aload_rd hG rfl rfl rfl (by first | (simp [ldok]; done) | exact List.not_mem_nil | trivial)) ?_
   refine yT 14 (by kernel_rfl) rfl rfl rfl (ltb rfl) ((abin_step rfl rfl rfl rfl (fun _ h => by cases h)).rd _) ?_
   obtain ⟨y36, hy37, hM⟩ := bind_t hM
   obtain ⟨hc39, hi40⟩ := iidx (k := .u8) hy37
   refine yT 15 (by kernel_rfl) rfl rfl rfl (ltb rfl) ((indexImm_step hG rfl rfl rfl hi40 rfl rfl rfl rfl hc39).rd _) ?_
   refine yTL hG 16 (by kernel_rfl) rfl ?_
   refine yT 17 (by kernel_rfl) rfl rfl rfl (ltb rfl) ((convInt_step hG rfl rfl rfl rfl rfl).rd _) ?_
   refine AAny.one (i := 4) (by kernel_rfl) (AOp.rd rfl rfl rfl (ltb rfl) (aload_rd hG rfl rfl rfl (by first | (simp [ldok]; done) | exact List.not_mem_nil | trivial)) ?_)
   refine yT 5 (by kernel_rfl) rfl rfl rfl (ltb rfl) ((abin_step rfl rfl rfl rfl (fun _ h => by cases h)).rd _) ?_
   refine yT 18 (by kernel_rfl) rfl rfl rfl (ltb rfl) ((abin_step rfl rfl rfl rfl (fun _ h => by cases h)).rd _) ?_
   refine yT 19 (by kernel_rfl) rfl rfl rfl (ltb rfl) ((abin_step rfl rfl rfl rfl (fun _ h => by cases h)).rd _) ?_
   refine yT 20 (by kernel_rfl) rfl rfl rfl (ltb rfl) ((abin_step rfl rfl rfl rfl (fun _ h => by cases h)).rd _) ?_
   refine yT 21 (by kernel_rfl) rfl rfl rfl (ltb rfl) ((nilCheck_step rfl rfl ⟨_, rfl⟩).rd _) ?_
   refine yTF hG 22 (by kernel_rfl) rfl ?_
   refine yW hG 23 (by kernel_rfl) rfl (by kernel_rfl) rfl ?_
   refine AAny.done (by kernel_rfl) ?_
   refine run_sub_code (σ' := ⟨[(0, .optr (.bor 0) 0 0), (2, .int .i64 0)], [], [⟨156, 3, true, [[.imm 0 1 f2 ((l2 : List Int).map fun n => [AV.int .u8 n]), .int .i64 (IntKind.i64.wrap (i3 + 1)), .int .i64 (Int.tmod (IntKind.i64.wrap ((IntKind.i64.wrap ((IntKind.i64.wrap (i4 * 31)) + (IntKind.i64.wrap y36))) + 7)) 2147483648)]]⟩], O, tk⟩) (Sub.env _ ⟨rfl, rfl, trivial⟩) ?_
   refine run_seq ?_
   refine run_draw [] (n := 13) mixed rfl yE ?_
   refine yTV 0 (by kernel_rfl) rfl ?_
   refine yT 1 (by kernel_rfl) rfl rfl rfl (ltb rfl) ((nilCheck_step rfl rfl ⟨_, rfl⟩).rd _) ?_
   refine yTF hG 2 (by kernel_rfl) rfl ?_
   refine yTL hG 3 (by kernel_rfl) rfl ?_
   refine yTV 4 (by kernel_rfl) rfl ?_
   refine yT 5 (by kernel_rfl) rfl rfl rfl (ltb rfl) ((nilCheck_step rfl rfl ⟨_, rfl⟩).rd _) ?_
   refine yTF hG 6 (by kernel_rfl) rfl ?_
   refine yTL hG 7 (by kernel_rfl) rfl ?_
   refine yT 8 (by kernel_rfl) rfl rfl rfl (ltb rfl) ((abin_step rfl rfl rfl rfl (fun _ h => by cases h)).rd _) ?_
   obtain ⟨y41, hy42, hM⟩ := bind_t hM
   obtain ⟨hc44, hi45⟩ := iidx (k := .u8) hy42
   refine yT 9 (by kernel_rfl) rfl rfl rfl (ltb rfl) ((indexImm_step hG rfl rfl rfl hi45 rfl rfl rfl rfl hc44).rd _) ?_
   refine yTL hG 10 (by kernel_rfl) rfl ?_
   refine yT 11 (by kernel_rfl) rfl rfl rfl (ltb rfl) ((convInt_step hG rfl rfl rfl rfl rfl).rd _) ?_
   refine yTW 12 (by kernel_rfl) rfl ?_
   refine AAny.done (by kernel_rfl) ?_
   refine run_ret_to ?_
   replace hM := some_t hM
   subst hM
   refine fin_x hG rfl rfl rfl (v' := .int .i64 (IntKind.i64.wrap y41)) (by rfl) ⟨_, ⟨156, 3, true, [[.imm 0 1 f2 ((l2 : List Int).map fun n => [AV.int .u8 n]), .int .i64 (IntKind.i64.wrap (i3 + 1)), .int .i64 (Int.tmod (IntKind.i64.wrap ((IntKind.i64.wrap ((IntKind.i64.wrap (i4 * 31)) + (IntKind.i64.wrap y36))) + 7)) 2147483648)]]⟩, rfl, rfl, (show tk ≤ tk by omega), ⟨_, f2, l2, (IntKind.i64.wrap (i3 + 1)), (Int.tmod (IntKind.i64.wrap ((IntKind.i64.wrap ((IntKind.i64.wrap (i4 * 31)) + (IntKind.i64.wrap y36))) + 7)) 2147483648), rfl, rfl, rfl⟩⟩
  refine AOp.rd rfl rfl rfl (ltb rfl) (aload_rd hG rfl rfl rfl (by first | (simp [ldok]; done) | exact List.not_mem_nil | trivial)) ?_
  refine yT 14 (by kernel_rfl) rfl rfl rfl (ltb rfl) ((abin_step rfl rfl rfl rfl (fun _ h => by cases h)).rd _) ?_
  refine AAny.each (rs := [4, 9]) (by kernel_rfl) (fun h => by cases h) (fun i hi => ?_)
  simp only [List.mem_cons, List.not_mem_nil, or_false] at hi
  rcases hi with rfl | rfl
  ·refine AOp.rd rfl rfl rfl (ltb rfl) (aload_rd hG rfl rfl rfl (by first | (simp [ldok]; done) | exact List.not_mem_nil | trivial)) ?_
   refine yT 5 (by kernel_rfl) rfl rfl rfl (ltb rfl) ((abin_step rfl rfl rfl rfl (fun _ h => by cases h)).rd _) ?_
   refine AAny.one (i := 9) (by kernel_rfl) (AOp.rd rfl rfl rfl (ltb rfl) (aload_rd hG rfl rfl rfl (by first | (simp [ldok]; done) | exact List.not_mem_nil | trivial)) ?_)
   obtain ⟨y46, hy47, hM⟩ := bind_t hM
   obtain ⟨hc49, hi50⟩ := iidx (k := .u8) hy47
   refine yT 15 (by kernel_rfl) rfl rfl rfl (ltb rfl) ((indexImm_step hG rfl rfl rfl hi50 rfl rfl rfl rfl hc49).rd _) ?_
   refine yTL hG 16 (by kernel_rfl) rfl ?_
   refine yT 17 (by kernel_rfl) rfl rfl rfl (ltb rfl) ((convInt_step hG rfl rfl rfl rfl rfl).rd _) ?_
   refine yT 18 (by kernel_rfl) rfl rfl rfl (ltb rfl) ((abin_step rfl rfl rfl rfl (fun _ h => by cases h)).rd _) ?_
   refine yT 19 (by kernel_rfl) rfl rfl rfl (ltb rfl) ((abin_step rfl rfl rfl rfl (fun _ h => by cases h)).rd _) ?_
   refine yT 20 (by kernel_rfl) rfl rfl rfl (ltb rfl) ((abin_step rfl rfl rfl rfl (fun _ h => by cases h)).rd _) ?_
   refine yT 21 (by kernel_rfl) rfl rfl rfl (ltb rfl) ((nilCheck_step rfl rfl ⟨_, rfl⟩).rd _) ?_
   refine yTF hG 22 (by kernel_rfl) rfl ?_
   refine yW hG 23 (by kernel_rfl) rfl (by kernel_rfl) rfl ?_
   refine AAny.done (by kernel_rfl) ?_
   refine run_sub_code (σ' := ⟨[(0, .optr (.bor 0) 0 0), (2, .int .i64 0)], [], [⟨156, 3, true, [[.imm 0 1 f2 ((l2 : List Int).map fun n => [AV.int .u8 n]), .int .i64 (IntKind.i64.wrap (i3 + 1)), .int .i64 (Int.tmod (IntKind.i64.wrap ((IntKind.i64.wrap ((IntKind.i64.wrap (i4 * 31)) + (IntKind.i64.wrap y46))) + 7)) 2147483648)]]⟩], O, tk⟩) (Sub.env _ ⟨rfl, rfl, trivial⟩) ?_
   refine run_seq ?_
   refine run_draw [] (n := 13) mixed rfl yE ?_
   refine yTV 0 (by kernel_rfl) rfl ?_
   refine yT 1 (by kernel_rfl) rfl rfl rfl (ltb rfl) ((nilCheck_step rfl rfl ⟨_, rfl⟩).rd _) ?_
   refine yTF hG 2 (by kernel_rfl) rfl ?_
   refine yTL hG 3 (by kernel_rfl) rfl ?_
   refine yTV 4 (by kernel_rfl) rfl ?_
   refine yT 5 (by kernel_rfl) rfl rfl rfl (ltb rfl) ((nilCheck_step rfl rfl ⟨_, rfl⟩).rd _) ?_
   refine yTF hG 6 (by kernel_rfl) rfl ?_
   refine yTL hG 7 (by kernel_rfl) rfl ?_
   refine yT 8 (by kernel_rfl) rfl rfl rfl (ltb rfl) ((abin_step rfl rfl rfl rfl (fun _ h => by cases h)).rd _) ?_
   obtain ⟨y51, hy52, hM⟩ := bind_t hM
   obtain ⟨hc54, hi55⟩ := iidx (k := .u8) hy52
   refine yT 9 (by kernel_rfl) rfl rfl rfl (ltb rfl) ((indexImm_step hG rfl rfl rfl hi55 rfl rfl rfl rfl hc54).rd _) ?_
   refine yTL hG 10 (by kernel_rfl) rfl ?_
   refine yT 11 (by kernel_rfl) rfl rfl rfl (ltb rfl) ((convInt_step hG rfl rfl rfl rfl rfl).rd _) ?_
   refine yTW 12 (by kernel_rfl) rfl ?_
   refine AAny.done (by kernel_rfl) ?_
   refine run_ret_to ?_
   replace hM := some_t hM
   subst hM
   refine fin_x hG rfl rfl rfl (v' := .int .i64 (IntKind.i64.wrap y51)) (by rfl) ⟨_, ⟨156, 3, true, [[.imm 0 1 f2 ((l2 : List Int).map fun n => [AV.int .u8 n]), .int .i64 (IntKind.i64.wrap (i3 + 1)), .int .i64 (Int.tmod (IntKind.i64.wrap ((IntKind.i64.wrap ((IntKind.i64.wrap (i4 * 31)) + (IntKind.i64.wrap y46))) + 7)) 2147483648)]]⟩, rfl, rfl, (show tk ≤ tk by omega), ⟨_, f2, l2, (IntKind.i64.wrap (i3 + 1)), (Int.tmod (IntKind.i64.wrap ((IntKind.i64.wrap ((IntKind.i64.wrap (i4 * 31)) + (IntKind.i64.wrap y46))) + 7)) 2147483648), rfl, rfl, rfl⟩⟩
  refine AOp.rd rfl rfl rfl (ltb rfl) (aload_rd hG rfl rfl rfl (by first | (simp [ldok]; done) | exact List.not_mem_nil | trivial)) ?_
  obtain ⟨y56, hy57, hM⟩ := bind_t hM
  obtain ⟨hc59, hi60⟩ := iidx (k := .u8) hy57
  refine yT 15 (by kernel_rfl) rfl rfl rfl (ltb rfl) ((indexImm_step hG rfl rfl rfl hi60 rfl rfl rfl rfl hc59).rd _) ?_
  refine yTL hG 16 (by kernel_rfl) rfl ?_
  refine yT 17 (by kernel_rfl) rfl rfl rfl (ltb rfl) ((convInt_step hG rfl rfl rfl rfl rfl).rd _) ?_
  refine AAny.one (i := 4) (by kernel_rfl) (AOp.rd rfl rfl rfl (ltb rfl) (aload_rd hG rfl rfl rfl (by first | (simp [ldok]; done) | exact List.not_mem_nil | trivial)) ?_)
  refine yT 5 (by kernel_rfl) rfl rfl rfl (ltb rfl) ((abin_step rfl rfl rfl rfl (fun _ h => by cases h)).rd _) ?_
  refine yT 18 (by kernel_rfl) rfl rfl rfl (ltb rfl) ((abin_step rfl rfl rfl rfl (fun _ h => by cases h)).rd _) ?_
  refine yT 19 (by kernel_rfl) rfl rfl rfl (ltb rfl) ((abin_step rfl rfl rfl rfl (fun _ h => by cases h)).rd _) ?_
  refine yT 20 (by kernel_rfl) rfl rfl rfl (ltb rfl) ((abin_step rfl rfl rfl rfl (fun _ h => by cases h)).rd _) ?_
  refine yT 21 (by kernel_rfl) rfl rfl rfl (ltb rfl) ((nilCheck_step rfl rfl ⟨_, rfl⟩).rd _) ?_
  refine yTF hG 22 (by kernel_rfl) rfl ?_
  refine yW hG 23 (by kernel_rfl) rfl (by kernel_rfl) rfl ?_
  refine AAny.done (by kernel_rfl) ?_
  refine run_sub_code (σ' := ⟨[(0, .optr (.bor 0) 0 0), (2, .int .i64 0)], [], [⟨156, 3, true, [[.imm 0 1 f2 ((l2 : List Int).map fun n => [AV.int .u8 n]), .int .i64 (IntKind.i64.wrap (i3 + 1)), .int .i64 (Int.tmod (IntKind.i64.wrap ((IntKind.i64.wrap ((IntKind.i64.wrap (i4 * 31)) + (IntKind.i64.wrap y56))) + 7)) 2147483648)]]⟩], O, tk⟩) (Sub.env _ ⟨rfl, rfl, trivial⟩) ?_
  refine run_seq ?_
  refine run_draw [] (n := 13) mixed rfl yE ?_
  refine yTV 0 (by kernel_rfl) rfl ?_
  refine yT 1 (by kernel_rfl) rfl rfl rfl (ltb rfl) ((nilCheck_step rfl rfl ⟨_, rfl⟩).rd _) ?_
  refine yTF hG 2 (by kernel_rfl) rfl ?_
  refine yTL hG 3 (by kernel_rfl) rfl ?_
  refine yTV 4 (by kernel_rfl) rfl ?_
  refine yT 5 (by kernel_rfl) rfl rfl rfl (ltb rfl) ((nilCheck_step rfl rfl ⟨_, rfl⟩).rd _) ?_
  refine yTF hG 6 (by kernel_rfl) rfl ?_
  refine yTL hG 7 (by kernel_rfl) rfl ?_
  refine yT 8 (by kernel_rfl) rfl rfl rfl (ltb rfl) ((abin_step rfl rfl rfl rfl (fun _ h => by cases h)).rd _) ?_
  obtain ⟨y61, hy62, hM⟩ := bind_t hM
  obtain ⟨hc64, hi65⟩ := iidx (k := .u8) hy62
  refine yT 9 (by kernel_rfl) rfl rfl rfl (ltb rfl) ((indexImm_step hG rfl rfl rfl hi65 rfl rfl rfl rfl hc64).rd _) ?_
  refine yTL hG 10 (by kernel_rfl) rfl ?_
  refine yT 11 (by kernel_rfl) rfl rfl rfl (ltb rfl) ((convInt_step hG rfl rfl rfl rfl rfl).rd _) ?_
  refine yTW 12 (by kernel_rfl) rfl ?_
  refine AAny.done (by kernel_rfl) ?_
  refine run_ret_to ?_
  replace hM := some_t hM
  subst hM
  refine fin_x hG rfl rfl rfl (v' := .int .i64 (IntKind.i64.wrap y61)) (by rfl) ⟨_, ⟨156, 3, true, [[.imm 0 1 f2 ((l2 : List Int).map fun n => [AV.int .u8 n]), .int .i64 (IntKind.i64.wrap (i3 + 1)), .int .i64 (Int.tmod (IntKind.i64.wrap ((IntKind.i64.wrap ((IntKind.i64.wrap (i4 * 31)) + (IntKind.i64.wrap y56))) + 7)) 2147483648)]]⟩, rfl, rfl, (show tk ≤ tk by omega), ⟨_, f2, l2, (IntKind.i64.wrap (i3 + 1)), (Int.tmod (IntKind.i64.wrap ((IntKind.i64.wrap ((IntKind.i64.wrap (i4 * 31)) + (IntKind.i64.wrap y56))) + 7)) 2147483648), rfl, rfl, rfl⟩⟩
 replace hM := ite_f hb5 hM
 refine run_skip ?_
 refine run_seq ?_
 refine run_sr ?_
 refine yL rfl ?_
 refine run_pu rfl (nilCheck_step rfl rfl ⟨_, rfl⟩) rfl (ltb rfl) ?_
 refine yF hG rfl ?_
 refine yD hG rfl ?_
 refine yB rfl ?_
 refine yN ?_
 refine run_ifd rfl rfl (fun hb66 => ?_) (fun hb66 => ?_)
 ·replace hM := ite_t hb66 hM
  refine run_sr ?_
  refine yR rfl ?_
  refine yN ?_
  refine run_ret_to ?_
  replace hM := some_t hM
  subst hM
  refine fin_x hG rfl rfl rfl (v' := .int .i64 0) (by rfl) ⟨_, ⟨156, 3, true, [[.imm 0 1 f2 ((l2 : List Int).map fun n => [AV.int .u8 n]), .int .i64 (IntKind.i64.wrap (i3 + 1)), .int .i64 i4]]⟩, rfl, rfl, (show tk ≤ tk by omega), ⟨_, f2, l2, (IntKind.i64.wrap (i3 + 1)), i4, rfl, rfl, rfl⟩⟩
 replace hM := ite_f hb66 hM
 refine run_skip ?_
 refine run_sr ?_
 refine yL rfl ?_
 refine yL rfl ?_
 refine run_pu rfl (nilCheck_step rfl rfl ⟨_, rfl⟩) rfl (ltb rfl) ?_
 refine yF hG rfl ?_
 refine yD hG rfl ?_
 refine yB rfl ?_
 refine yB rfl ?_
 refine yB rfl ?_
 refine run_pu rfl (nilCheck_step rfl rfl ⟨_, rfl⟩) rfl (ltb rfl) ?_
 refine yF hG rfl ?_
 refine yS hG rfl ?_
 refine yN ?_
 refine run_sub_code (σ' := ⟨[(0, .optr (.bor 0) 0 0), (2, .int .i64 0)], [], [⟨156, 3, true, [[.imm 0 1 f2 ((l2 : List Int).map fun n => [AV.int .u8 n]), .int .i64 (IntKind.i64.wrap (i3 + 1)), .int .i64 (Int.tmod (IntKind.i64.wrap ((IntKind.i64.wrap (i4 * 1103515245)) + 12345)) 2147483648)]]⟩], O, tk⟩) (Sub.env _ ⟨rfl, rfl, trivial⟩) ?_
 refine run_sr ?_
 refine yL rfl ?_
 refine run_pu rfl (nilCheck_step rfl rfl ⟨_, rfl⟩) rfl (ltb rfl) ?_
 refine yF hG rfl ?_
 refine yD hG rfl ?_
 refine yB rfl ?_
 refine yB rfl ?_
 refine yR rfl ?_
 refine yN ?_
 refine run_ret_to ?_
 replace hM := some_t hM
 subst hM
 refine fin_x hG rfl rfl rfl (v' := .int .i64 (Int.tmod (IntKind.i64.wrap (Int.tdiv (Int.tmod (IntKind.i64.wrap ((IntKind.i64.wrap (i4 * 1103515245)) + 12345)) 2147483648) 65536)) 256)) (by rfl) ⟨_, ⟨156, 3, true, [[.imm 0 1 f2 ((l2 : List Int).map fun n => [AV.int .u8 n]), .int .i64 (IntKind.i64.wrap (i3 + 1)), .int .i64 (Int.tmod (IntKind.i64.wrap ((IntKind.i64.wrap (i4 * 1103515245)) + 12345)) 2147483648)]]⟩, rfl, rfl, (show tk ≤ tk by omega), ⟨_, f2, l2, (IntKind.i64.wrap (i3 + 1)), (Int.tmod (IntKind.i64.wrap ((IntKind.i64.wrap (i4 * 1103515245)) + 12345)) 2147483648), rfl, rfl, rfl⟩⟩

def s_l00Src_next (z1 : (List Int × Int × Int)) (i5 : Int) : Option (Int × (List Int × Int × Int)) :=
 if i5 ≤ 1 then
  some (0, (z1.1, z1.2.1, z1.2.2))
 else
  if i5 ≤ 256 then
   (s_l00Src_byte (z1.1, z1.2.1, z1.2.2)).bind fun r8 =>
   chk (i5 ≠ 0) <|
   some ((Int.tmod r8.1 i5), (r8.2.1, r8.2.2.1, r8.2.2.2))
  else
   (s_l00Src_byte (z1.1, z1.2.1, z1.2.2)).bind fun r21 =>
   (s_l00Src_byte (r21.2.1, r21.2.2.1, r21.2.2.2)).bind fun r33 =>
   (s_l00Src_byte (r33.2.1, r33.2.2.1, r33.2.2.2)).bind fun r45 =>
   chk (i5 ≠ 0) <|
   some ((Int.tmod (IntKind.i64.wrap ((IntKind.i64.wrap ((IntKind.i64.wrap (r21.1 * 65536)) + (IntKind.i64.wrap (r33.1 * 256)))) + r45.1)) i5), (r45.2.1, r45.2.2.1, r45.2.2.2))

set_option maxRecDepth 100000 in
theorem s_l00Src_next_ok : ∀ (X0 : ID) (f2 : Bool) (l2 : List Int) (i3 : Int) (i4 : Int) (i5 : Int) {r : (Int × (List Int × Int × Int))}, s_l00Src_next (l2, i3, i4) i5 = some r → ∀ (O : Heap) (tk : Nat), O X0 = some ⟨156, 3, true, [[.imm 0 1 f2 ((l2 : List Int).map fun n => [AV.int .u8 n]), .int .i64 i3, .int .i64 i4]]⟩ → ACalls Go.Proofs.Try.prog 52 [.optr X0 0 0, .int .i64 i5] O tk (RetV O X0 tk (fun v o' tk' => ∃ r0', ∃ (c0f : Bool) (c0 : List Int) (c1 : Int) (c2 : Int) , r = (r0', (c0, c1, c2)) ∧ o' = ⟨156, 3, true, [[.imm 0 1 c0f ((c0 : List Int).map fun n => [AV.int .u8 n]), .int .i64 c1, .int .i64 c2]]⟩ ∧ v = .int .i64 r0')) := by
 intro X0 f2 l2 i3 i4 i5 r hM O tk hX0
 unfold s_l00Src_next at hM
 refine acalls_of_run Go.Proofs.Try.func52 rfl rfl [X0] [⟨156, 3, true, [[.imm 0 1 f2 ((l2 : List Int).map fun n => [AV.int .u8 n]), .int .i64 i3, .int .i64 i4]]⟩] (Bor.one hX0 rfl) [(0, .optr (.bor 0) 0 0), (1, .int .i64 i5)] (.cons (.bor 0 _ _ _ rfl) (.cons (entS rfl) (.nil _))) (leb rfl) (by intro y h; simp only [List.mem_cons, List.not_mem_nil, or_false] at h; rcases h with rfl <;> simp [tch, tch0]) (fun S0 hO htk hfz => ?_)
 refine run_sr ?_
 refine yR rfl ?_
 refine yN ?_
 refine run_seq ?_
 refine run_sr ?_
 refine yL rfl ?_
 refine yB rfl ?_
 refine yN ?_
 refine run_ifd rfl rfl (fun hb6 => ?_) (fun hb6 => ?_)
 ·replace hM := ite_t hb6 hM
  refine run_sr ?_
  refine yR rfl ?_
  refine yN ?_
  refine run_ret_to ?_
  replace hM := some_t hM
  subst hM
  refine fin_x hG rfl rfl rfl (v' := .int .i64 0) (by rfl) ⟨_, ⟨156, 3, true, [[.imm 0 1 f2 ((l2 : List Int).map fun n => [AV.int .u8 n]), .int .i64 i3, .int .i64 i4]]⟩, rfl, rfl, (show tk ≤ tk by omega), ⟨_, f2, l2, i3, i4, rfl, rfl, rfl⟩⟩
 replace hM := ite_f hb6 hM
 refine run_skip ?_
 refine run_seq ?_
 refine run_sr ?_
 refine yL rfl ?_
 refine yB rfl ?_
 refine yN ?_
 refine run_ifd rfl rfl (fun hb7 => ?_) (fun hb7 => ?_)
 ·replace hM := ite_t hb7 hM
  refine run_sr ?_
  refine yL rfl ?_
  obtain ⟨r8, hg9, hM⟩ := bind_t hM
  refine yK rfl (s_l00Src_byte_ok (.bor 0) f2 l2 i3 i4 hg9 _ _ rfl) (callK_retV_bor (k := 0) rfl (fun v o' tk' h => by obtain ⟨_, _, _, _, _, rfl, rfl, _⟩ := h; rfl) (fun v o'19 tk10 (hle11 : tk ≤ tk10) h12 => ?_))
  obtain ⟨ra18, fc15, c15, c16, c17, rfl, rfl, rfl⟩ := h12
  refine yL rfl ?_
  obtain ⟨hc20, hM⟩ := chk_t hM
  refine run_pu rfl (abin_step rfl rfl rfl (rem_ne hc20) (fun _ h => by cases h)) rfl (ltb rfl) ?_
  refine yR rfl ?_
  refine yN ?_
  refine run_ret_to ?_
  replace hM := some_t hM
  subst hM
  refine fin_x hG rfl rfl rfl (v' := .int .i64 (Int.tmod ra18 i5)) (by rfl) ⟨_, ⟨156, 3, true, [[.imm 0 1 fc15 ((c15 : List Int).map fun n => [AV.int .u8 n]), .int .i64 c16, .int .i64 c17]]⟩, rfl, rfl, (show tk ≤ tk10 by omega), ⟨_, fc15, c15, c16, c17, rfl, rfl, rfl⟩⟩
 replace hM := ite_f hb7 hM
 refine run_skip ?_
 refine run_sr ?_
 refine yL rfl ?_
 obtain ⟨r21, hg22, hM⟩ := bind_t hM
 refine yK rfl (s_l00Src_byte_ok (.bor 0) f2 l2 i3 i4 hg22 _ _ rfl) (callK_retV_bor (k := 0) rfl (fun v o' tk' h => by obtain ⟨_, _, _, _, _, rfl, rfl, _⟩ := h; rfl) (fun v o'32 tk23 (hle24 : tk ≤ tk23) h25 => ?_))
 obtain ⟨ra31, fc28, c28, c29, c30, rfl, rfl, rfl⟩ := h25
 refine yR rfl ?_
 refine yN ?_
 refine run_sr ?_
 refine yL rfl ?_
 obtain ⟨r33, hg34, hM⟩ := bind_t hM
 refine yK rfl (s_l00Src_byte_ok (.bor 0) fc28 c28 c29 c30 hg34 _ _ rfl) (callK_retV_bor (k := 0) rfl (fun v o' tk' h => by obtain ⟨_, _, _, _, _, rfl, rfl, _⟩ := h; rfl) (fun v o'44 tk35 (hle36 : tk23 ≤ tk35) h37 => ?_))
 obtain ⟨ra43, fc40, c40, c41, c42, rfl, rfl, rfl⟩ := h37
 refine yR rfl ?_
 refine yN ?_
 refine run_sr ?_
 refine yL rfl ?_
 obtain ⟨r45, hg46, hM⟩ := bind_t hM
 refine yK rfl (s_l00Src_byte_ok (.bor 0) fc40 c40 c41 c42 hg46 _ _ rfl) (callK_retV_bor (k := 0) rfl (fun v o' tk' h => by obtain ⟨_, _, _, _, _, rfl, rfl, _⟩ := h; rfl) (fun v o'56 tk47 (hle48 : tk35 ≤ tk47) h49 => ?_))
 obtain ⟨ra55, fc52, c52, c53, c54, rfl, rfl, rfl⟩ := h49
 refine yR rfl ?_
 refine yN ?_
 refine run_sub_code (σ' := ⟨[(1, .int .i64 i5), (4, .int .i64 0), (5, .int .i64 ra31), (6, .int .i64 ra43), (7, .int .i64 ra55)], [], [⟨156, 3, true, [[.imm 0 1 fc52 ((c52 : List Int).map fun n => [AV.int .u8 n]), .int .i64 c53, .int .i64 c54]]⟩], O, tk47⟩) (Sub.env _ ⟨rfl, rfl, rfl, rfl, rfl, trivial⟩) ?_
 refine run_sr ?_
 refine yL rfl ?_
 refine yB rfl ?_
 refine yL rfl ?_
 refine yB rfl ?_
 refine yB rfl ?_
 refine yL rfl ?_
 refine yB rfl ?_
 refine yL rfl ?_
 obtain ⟨hc57, hM⟩ := chk_t hM
 refine run_pu rfl (abin_step rfl rfl rfl (rem_ne hc57) (fun _ h => by cases h)) rfl (ltb rfl) ?_
 refine yR rfl ?_
 refine yN ?_
 refine run_ret_to ?_
 replace hM := some_t hM
 subst hM
 refine fin_x hG rfl rfl rfl (v' := .int .i64 (Int.tmod (IntKind.i64.wrap ((IntKind.i64.wrap ((IntKind.i64.wrap (ra31 * 65536)) + (IntKind.i64.wrap (ra43 * 256)))) + ra55)) i5)) (by rfl) ⟨_, ⟨156, 3, true, [[.imm 0 1 fc52 ((c52 : List Int).map fun n => [AV.int .u8 n]), .int .i64 c53, .int .i64 c54]]⟩, rfl, rfl, (show tk ≤ tk47 by omega), ⟨_, fc52, c52, c53, c54, rfl, rfl, rfl⟩⟩

def s_l00Src_chance (z1 : (List Int × Int × Int)) (i5 : Int) : Option (Bool × (List Int × Int × Int)) :=
 (s_l00Src_next (z1.1, z1.2.1, z1.2.2) i5).bind fun r6 =>
 some ((r6.1 == (IntKind.i64.wrap (i5 - 1))), (r6.2.1, r6.2.2.1, r6.2.2.2))

set_option maxRecDepth 100000 in
theorem s_l00Src_chance_ok : ∀ (X0 : ID) (f2 : Bool) (l2 : List Int) (i3 : Int) (i4 : Int) (i5 : Int) {r : (Bool × (List Int × Int × Int))}, s_l00Src_chance (l2, i3, i4) i5 = some r → ∀ (O : Heap) (tk : Nat), O X0 = some ⟨156, 3, true, [[.imm 0 1 f2 ((l2 : List Int).map fun n => [AV.int .u8 n]), .int .i64 i3, .int .i64 i4]]⟩ → ACalls Go.Proofs.Try.prog 137 [.optr X0 0 0, .int .i64 i5] O tk (RetV O X0 tk (fun v o' tk' => ∃ r0', ∃ (c0f : Bool) (c0 : List Int) (c1 : Int) (c2 : Int) , r = (r0', (c0, c1, c2)) ∧ o' = ⟨156, 3, true, [[.imm 0 1 c0f ((c0 : List Int).map fun n => [AV.int .u8 n]), .int .i64 c1, .int .i64 c2]]⟩ ∧ v = .bool r0')) := by
 intro X0 f2 l2 i3 i4 i5 r hM O tk hX0
 unfold s_l00Src_chance at hM
 refine acalls_of_run Go.Proofs.Try.func137 rfl rfl [X0] [⟨156, 3, true, [[.imm 0 1 f2 ((l2 : List Int).map fun n => [AV.int .u8 n]), .int .i64 i3, .int .i64 i4]]⟩] (Bor.one hX0 rfl) [(0, .optr (.bor 0) 0 0), (1, .int .i64 i5)] (.cons (.bor 0 _ _ _ rfl) (.cons (entS rfl) (.nil _))) (leb rfl) (by intro y h; simp only [List.mem_cons, List.not_mem_nil, or_false] at h; rcases h with rfl <;> simp [tch, tch0]) (fun S0 hO htk hfz => ?_)
 refine run_sr ?_
 refine yR rfl ?_
 refine yN ?_
 refine run_sr ?_
 refine yL rfl ?_
 refine yL rfl ?_
 obtain ⟨r6, hg7, hM⟩ := bind_t hM
 refine yK rfl (s_l00Src_next_ok (.bor 0) f2 l2 i3 i4 i5 hg7 _ _ rfl) (callK_retV_bor (k := 0) rfl (fun v o' tk' h => by obtain ⟨_, _, _, _, _, rfl, rfl, _⟩ := h; rfl) (fun v o'17 tk8 (hle9 : tk ≤ tk8) h10 => ?_))
 obtain ⟨ra16, fc13, c13, c14, c15, rfl, rfl, rfl⟩ := h10
 refine yL rfl ?_
 refine yB rfl ?_
 refine yB rfl ?_
 refine yR rfl ?_
 refine yN ?_
 refine run_ret_to ?_
 replace hM := some_t hM
 subst hM
 refine fin_x hG rfl rfl rfl (v' := .bool (ra16 == (IntKind.i64.wrap (i5 - 1)))) (by rfl) ⟨_, ⟨156, 3, true, [[.imm 0 1 fc13 ((c13 : List Int).map fun n => [AV.int .u8 n]), .int .i64 c14, .int .i64 c15]]⟩, rfl, rfl, (show tk ≤ tk8 by omega), ⟨_, fc13, c13, c14, c15, rfl, rfl, rfl⟩⟩

end Go.Am.Ytpkeophkdemcpaa
