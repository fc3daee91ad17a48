/- Printed by a program of ours: Lean functions that do what the Go functions do, and the contracts. -/
import Derived.Test.YtpkeophkdemcpaaMi1
import Derived.Test.YtpkeophkdemcpaaTypes
import Derived.Test.YtpkeophkdemcpaaMz
-- packed
namespace Go.Am.Ytpkeophkdemcpaa
open Go Go.Am

set_option maxRecDepth 100000 in
theorem i_constant_ex (t1 : ByteArray) (q2 : Nat) (f2 : Bool) (ks2 : List LT) (O : Heap) (tk : Nat) : ACalls Go.Proofs.Try.prog 153 [.str t1, .imm q2 4 f2 (cellss ks2)] O tk (RetN O (.agg [.int .i64 6, .int .i64 0, .str t1, .imm q2 4 f2 (cellss ks2)]) tk) := by
 refine acalls_of_run Go.Proofs.Try.func153 rfl rfl [] [] (Bor.nil _) [(0, .str t1), (1, .imm q2 4 f2 (cellss ks2))] (.cons (entS rfl) (.cons (entS rfl) (.nil _))) (leb rfl) (fun _ h => by cases h) (fun S0 hO htk hfz => ?_)
 refine run_sr ?_
 refine run_op rfl (alloc_step (d := 4) hG rfl rfl rfl) rfl (ltb rfl) ?_
 refine yN ?_
 refine run_sr ?_
 refine yL rfl ?_
 refine yL rfl ?_
 refine run_pu rfl (build_step hG rfl (by rfl) rfl (fun h => by cases h) (by rfl)) rfl (ltb rfl) ?_
 refine yS hG rfl ?_
 refine yN ?_
 refine run_ret_to ?_
 refine fin_x hG rfl rfl rfl (v' := .agg [.int .i64 6, .int .i64 0, .str t1, .imm q2 4 f2 (cellss ks2)]) (by rfl) ⟨rfl, rfl, rfl⟩

def s_l00Digits : Nat → Int → Option ByteArray
 | 0, _ => none
 | n + 1, i1 =>
  if i1 = (-9223372036854775808) then
   some (⟨#[45, 57, 50, 50, 51, 51, 55, 50, 48, 51, 54, 56, 53, 52, 55, 55, 53, 56, 48, 56]⟩)
  else
   if i1 < 0 then
    (s_l00Digits n (IntKind.i64.wrap (0 - i1))).bind fun r4 =>
    chk ((⟨#[45]⟩ : ByteArray).size + r4.size ≤ 9223372036854775807) <|
    some ((⟨#[45]⟩ : ByteArray) ++ r4)
   else
    if i1 < 10 then
     some (bytesOf [(IntKind.u8.wrap (IntKind.i64.wrap (48 + i1)))])
    else
     (s_l00Digits n (IntKind.i64.wrap (Int.tdiv i1 10))).bind fun r13 =>
     chk (r13.size + (bytesOf [(IntKind.u8.wrap (IntKind.i64.wrap (48 + (Int.tmod i1 10))))]).size ≤ 9223372036854775807) <|
     some (r13 ++ (bytesOf [(IntKind.u8.wrap (IntKind.i64.wrap (48 + (Int.tmod i1 10))))]))

def i_typeTerm : Nat → F → Option T
 | 0, _ => none
 | n + 1, x1 =>
  if x1.kind = 1 then
   (strSub (⟨#[98, 48, 98, 49, 98, 50, 98, 51, 98, 52, 98, 53]⟩ : ByteArray) (IntKind.i64.wrap (2 * x1.n)) (IntKind.i64.wrap ((IntKind.i64.wrap (2 * x1.n)) + 2))).bind fun y3 =>
   some (T.mk 6 0 y3 [])
  else
   (idx x1.kids 0).bind fun y5 =>
   (idx x1.kids 1).bind fun y10 =>
   (i_typeTerm n y5).bind fun r15 =>
   (i_typeTerm n y10).bind fun r22 =>
   some (T.mk 6 0 ⟨#[97, 114, 114]⟩ [r15, r22])

def i_typeTerm_P (n : Nat) : Prop := ∀ (k1 : Int) (n1 : Int) (q1 : Nat) (f1 : Bool) (ks1 : List LF) {r : T}, i_typeTerm n (F.mk k1 n1 (fers ks1)) = some r → ∀ (O : Heap) (tk : Nat), ACalls Go.Proofs.Try.prog 76 [.agg [.int .i64 k1, .int .i64 n1, .imm q1 3 f1 (fcellss ks1)]] O tk (RetX O tk (fun v tk' => VT true tk tk' r v))

set_option maxRecDepth 100000 in
theorem i_typeTerm_st (n : Nat) (ih_i_typeTerm : i_typeTerm_P n) : i_typeTerm_P (n + 1) := by
 intro k1 n1 q1 f1 ks1 r hM O tk
 rw [i_typeTerm] at hM
 refine acalls_of_run Go.Proofs.Try.func76 rfl rfl [] [] (Bor.nil _) [(0, .agg [.int .i64 k1, .int .i64 n1, .imm q1 3 f1 (fcellss ks1)])] (.cons (.agg _) (.nil _)) (leb rfl) (fun _ h => by cases h) (fun S0 hO htk hfz => ?_)
 refine run_sr ?_
 refine run_op rfl (box_step (d := 1) rfl rfl rfl rfl rfl) rfl (ltb rfl) ?_
 refine run_op rfl (alloc_step (d := 2) hG rfl rfl rfl) rfl (ltb rfl) ?_
 refine yN ?_
 refine run_seq ?_
 refine run_sr ?_
 refine yF hG rfl ?_
 refine yD hG rfl ?_
 refine yB rfl ?_
 refine yN ?_
 refine run_ifd rfl rfl (fun hb2 => ?_) (fun hb2 => ?_)
 ·replace hM := ite_t hb2 hM
  refine run_sr ?_
  refine yF hG rfl ?_
  refine yD hG rfl ?_
  refine yB rfl ?_
  refine yF hG rfl ?_
  refine yD hG rfl ?_
  refine yB rfl ?_
  refine yB rfl ?_
  obtain ⟨y3, hy4, hM⟩ := bind_t hM
  refine run_pu rfl (strSlice_step hG rfl rfl rfl rfl rfl rfl hy4) rfl (ltb rfl) ?_
  refine yK rfl (ACalls.args (args' := [.str y3, .imm 0 4 true (cellss [])]) rfl (i_constant_ex y3 0 true [] _ _)) (callK_retN ?_)
  skip
  refine yS hG rfl ?_
  refine yN ?_
  refine run_ret_to ?_
  obtain rfl := some_t hM
  refine fin_x hG rfl rfl rfl (v' := .agg [.int .i64 6, .int .i64 0, .str y3, .imm 0 4 true (cellss [])]) (by rfl) ⟨rfl, (show tk ≤ tk by omega), _, rfl, ⟨6, 0, y3, 0, true, [], rfl, rfl, fun _ => Fr.nil _ _⟩⟩
 replace hM := ite_f hb2 hM
 refine run_skip ?_
 refine run_seq ?_
 refine run_draw [.loc 2] (n := 13) mixed rfl (by intro x hx; simp only [List.mem_cons, List.not_mem_nil, or_false] at hx; rcases hx with rfl <;> rfl) ?_
 refine yTF hG 0 (by kernel_rfl) rfl ?_
 refine yTL hG 1 (by kernel_rfl) rfl ?_
 obtain ⟨y5, hy6, hM⟩ := bind_t hM
 obtain ⟨k7, n7, q7, f7, ks7, rfl, hc8, hi9⟩ := fidx hy6
 refine yT 2 (by kernel_rfl) rfl rfl rfl (ltb rfl) ((indexImm_step hG rfl rfl rfl hi9 rfl rfl rfl rfl hc8).rd _) ?_
 refine yTL hG 3 (by kernel_rfl) rfl ?_
 refine yTF hG 5 (by kernel_rfl) rfl ?_
 refine yTL hG 6 (by kernel_rfl) rfl ?_
 obtain ⟨y10, hy11, hM⟩ := bind_t hM
 obtain ⟨k12, n12, q12, f12, ks12, rfl, hc13, hi14⟩ := fidx hy11
 refine yT 7 (by kernel_rfl) rfl rfl rfl (ltb rfl) ((indexImm_step hG rfl rfl rfl hi14 rfl rfl rfl rfl hc13).rd _) ?_
 refine yTL hG 8 (by kernel_rfl) rfl ?_
 obtain ⟨r15, hg16, hM⟩ := bind_t hM
 refine yC 4 (by kernel_rfl) rfl rfl (ih_i_typeTerm k7 n7 q7 f7 ks7 hg16 _ _) (callK_retX (fun v tk17 (hle18 : tk ≤ tk17) h19 => ?_))
 obtain ⟨k20, n20, s20, q20, f20, ks20, rfl, rfl, hf21⟩ := h19
 obtain ⟨r22, hg23, hM⟩ := bind_t hM
 refine yC 9 (by kernel_rfl) rfl rfl (ih_i_typeTerm k12 n12 q12 f12 ks12 hg23 _ _) (callK_retX (fun v tk24 (hle25 : tk17 ≤ tk24) h26 => ?_))
 obtain ⟨k27, n27, s27, q27, f27, ks27, rfl, rfl, hf28⟩ := h26
 refine AAny.one (i := 10) (by kernel_rfl) (AOp.step rfl rfl rfl (ltb rfl) (buildSlice_step (d := 25) hG rfl rfl rfl rfl rfl (by rfl) (by rfl) (by rfl) (by decide)) yE ?_)
 refine AAny.sub (Sub.freeze (k := 25) rfl rfl) (by intro x hx; simp only [List.mem_cons, List.not_mem_nil, or_false] at hx; rcases hx with rfl <;> rfl) ?_
 refine yC 11 (by kernel_rfl) rfl rfl (i_constant_ex ⟨#[97, 114, 114]⟩ tk24 false [LT.mk k20 n20 s20 q20 f20 ks20, LT.mk k27 n27 s27 q27 f27 ks27] _ _) (callK_retN ?_)
 skip
 refine yW hG 12 (by kernel_rfl) rfl (by kernel_rfl) rfl ?_
 refine AAny.done (by kernel_rfl) ?_
 refine run_ret_to ?_
 obtain rfl := some_t hM
 refine fin_x hG rfl rfl rfl (v' := .agg [.int .i64 6, .int .i64 0, .str ⟨#[97, 114, 114]⟩, .imm tk24 4 false (cellss [LT.mk k20 n20 s20 q20 f20 ks20, LT.mk k27 n27 s27 q27 f27 ks27])]) (by rfl) ⟨rfl, (show tk ≤ (tk24 + 1) by omega), _, rfl, ⟨6, 0, ⟨#[97, 114, 114]⟩, tk24, false, [LT.mk k20 n20 s20 q20 f20 ks20, LT.mk k27 n27 s27 q27 f27 ks27], rfl, rfl, fun _ => (show Fr tk (tk24 + 1) _ from (show Fr tk (tk24 + 1) _ from Fr.tstop (show Fr tk tk24 _ from (Fr.tcons (show Fr tk tk17 _ from ((show Fr tk tk17 _ from hf21 rfl)).mono (by omega) (by omega)) (Fr.tcons ((show Fr tk17 tk24 _ from hf28 rfl)) (show Fr tk24 tk24 _ from Fr.nil _ _) (by omega) (by omega)) (by omega) (by omega)).mono (by omega) (by omega)) (by omega) (by omega)).mono (by omega) (by omega))⟩⟩

theorem i_typeTerm_all : ∀ (n : Nat), (i_typeTerm_P n)
 | 0 => by intro k1 n1 q1 f1 ks1 r hM; rw [i_typeTerm] at hM; cases hM
 | n + 1 => have ih := i_typeTerm_all n; i_typeTerm_st n (ih)

theorem i_typeTerm_ok (n : Nat) : i_typeTerm_P n := i_typeTerm_all n

def s_l09TypeTree : Nat → F → Option T
 | 0, _ => none
 | n + 1, x1 =>
  if x1.kind = 2 then
   (idx x1.kids 0).bind fun y3 =>
   (idx x1.kids 1).bind fun y8 =>
   (s_l09TypeTree n y3).bind fun r13 =>
   (s_l09TypeTree n y8).bind fun r20 =>
   some (T.mk 6 0 ⟨#[97, 114, 114]⟩ [r13, r20])
  else
   (s_l00Digits n x1.n).bind fun r27 =>
   chk ((⟨#[98]⟩ : ByteArray).size + r27.size ≤ 9223372036854775807) <|
   some (T.mk 6 0 ((⟨#[98]⟩ : ByteArray) ++ r27) [])

def i_tooBig_c1__c (x1 : T) (i2 : Int) (i3 : Int) : Option (Bool × Int) :=
 if (IntKind.i64.wrap (i3 + 1)) > 150 then
  some (true, (IntKind.i64.wrap (i3 + 1)))
 else
  if x1.kind = 5 then
   some ((decide (x1.n > 100)), (IntKind.i64.wrap (i3 + 1)))
  else
   some (false, (IntKind.i64.wrap (i3 + 1)))

set_option maxRecDepth 100000 in
theorem i_tooBig_c1__c_ok : ∀ (k1 : Int) (n1 : Int) (s1 : ByteArray) (q1 : Nat) (f1 : Bool) (ks1 : List LT) (i2 : Int) (X0 : ID) (i3 : Int) {r : (Bool × Int)}, i_tooBig_c1__c (T.mk k1 n1 s1 (ers ks1)) i2 i3 = some r → ∀ (O : Heap) (tk : Nat), O X0 = some ⟨3, 1, true, [[.int .i64 i3]]⟩ → ACalls Go.Proofs.Try.prog 157 [.cptr [.int .i64 k1, .int .i64 n1, .str s1, .imm q1 4 f1 (cellss ks1)], .int .i64 i2, .optr X0 0 0] O tk (RetV O X0 tk (fun v o' tk' => ∃ r0', ∃ (c0 : Int) , r = (r0', c0) ∧ o' = ⟨3, 1, true, [[.int .i64 c0]]⟩ ∧ v = .bool r0')) := by
 intro k1 n1 s1 q1 f1 ks1 i2 X0 i3 r hM O tk hX0
 unfold i_tooBig_c1__c at hM
 refine acalls_of_run Go.Proofs.Try.func157 rfl rfl [X0] [⟨3, 1, true, [[.int .i64 i3]]⟩] (Bor.one hX0 rfl) [(0, .cptr [.int .i64 k1, .int .i64 n1, .str s1, .imm q1 4 f1 (cellss ks1)]), (1, .int .i64 i2), (2, .optr (.bor 0) 0 0)] (.cons (.cptr _) (.cons (entS rfl) (.cons (.bor 0 _ _ _ rfl) (.nil _)))) (leb rfl) (by intro y h; simp only [List.mem_cons, List.not_mem_nil, or_false] at h; rcases h with rfl <;> simp [tch, tch0]) (fun S0 hO htk hfz => ?_)
 refine run_sr ?_
 refine yR rfl ?_
 refine yN ?_
 refine run_sr ?_
 refine yD hG rfl ?_
 refine yB rfl ?_
 refine yS hG rfl ?_
 refine yN ?_
 refine run_sr ?_
 refine yD hG rfl ?_
 refine yB rfl ?_
 refine yL rfl ?_
 refine run_splitd (i := 10) rfl (fun hb4 => ?_) (fun hb4 => ?_)
 ·replace hM := ite_t hb4 hM
  refine yO rfl ?_
  refine yO rfl ?_
  refine yO rfl ?_
  refine yO rfl ?_
  refine yO rfl ?_
  refine yO rfl ?_
  refine run_off (off_un rfl rfl rfl) rfl (ltb rfl) ?_
  refine run_off (off_un rfl rfl rfl) rfl (ltb rfl) ?_
  refine run_off (off_un rfl rfl rfl) rfl (ltb rfl) ?_
  refine run_off (off_un rfl rfl rfl) rfl (ltb rfl) ?_
  refine run_off (off_un rfl rfl rfl) rfl (ltb rfl) ?_
  refine yO rfl ?_
  refine yP rfl ?_
  refine yR rfl ?_
  refine yN ?_
  refine run_ret_to ?_
  obtain rfl := some_t hM
  refine fin_x hG rfl rfl rfl (v' := .bool true) (by rfl) ⟨_, ⟨3, 1, true, [[.int .i64 (IntKind.i64.wrap (i3 + 1))]]⟩, rfl, rfl, (show tk ≤ tk by omega), ⟨_, (IntKind.i64.wrap (i3 + 1)), rfl, rfl, rfl⟩⟩
 replace hM := ite_f hb4 hM
 refine run_puG (on_of rfl rfl rfl rfl) (move_step (.inl rfl) rfl) rfl (ltb rfl) ?_
 refine run_puG (on_of rfl rfl rfl rfl) (nilCheck_step rfl rfl ⟨_, rfl⟩) rfl (ltb rfl) ?_
 refine run_puG (on_of rfl rfl rfl rfl) (fieldAddr_step hG rfl rfl rfl rfl rfl) rfl (ltb rfl) ?_
 refine run_rdG (on_of rfl rfl rfl rfl) (aload_rd hG rfl rfl rfl (by simp [ldok])) rfl (ltb rfl) ?_
 refine run_puG (on_of rfl rfl rfl rfl) (abin_step rfl rfl rfl rfl (fun _ h => by cases h)) rfl (ltb rfl) ?_
 refine run_puG (on_of rfl rfl rfl rfl) (move_step (.inl rfl) rfl) rfl (ltb rfl) ?_
 refine run_splitd (i := 16) rfl (fun hb5 => ?_) (fun hb5 => ?_)
 ·replace hM := ite_t hb5 hM
  refine run_puG (on_of rfl rfl rfl rfl) (move_step (.inl rfl) rfl) rfl (ltb rfl) ?_
  refine run_puG (on_of rfl rfl rfl rfl) (nilCheck_step rfl rfl ⟨_, rfl⟩) rfl (ltb rfl) ?_
  refine run_puG (on_of rfl rfl rfl rfl) (fieldAddr_step hG rfl rfl rfl rfl rfl) rfl (ltb rfl) ?_
  refine run_rdG (on_of rfl rfl rfl rfl) (aload_rd hG rfl rfl rfl (by simp [ldok])) rfl (ltb rfl) ?_
  refine run_puG (on_of rfl rfl rfl rfl) (abin_step rfl rfl rfl rfl (fun _ h => by cases h)) rfl (ltb rfl) ?_
  refine run_puG (on_of rfl rfl rfl rfl) (pick_step rfl rfl rfl) rfl (ltb rfl) ?_
  refine yP rfl ?_
  refine yR rfl ?_
  refine yN ?_
  refine run_ret_to ?_
  obtain rfl := some_t hM
  refine fin_x hG rfl rfl rfl (v' := .bool (decide (n1 > 100))) (by rfl) ⟨_, ⟨3, 1, true, [[.int .i64 (IntKind.i64.wrap (i3 + 1))]]⟩, rfl, rfl, (show tk ≤ tk by omega), ⟨_, (IntKind.i64.wrap (i3 + 1)), rfl, rfl, rfl⟩⟩
 replace hM := ite_f hb5 hM
 refine yO rfl ?_
 refine yO rfl ?_
 refine yO rfl ?_
 refine yO rfl ?_
 refine yO rfl ?_
 refine run_puG (on_of rfl rfl rfl rfl) (pick_step rfl rfl rfl) rfl (ltb rfl) ?_
 refine yP rfl ?_
 refine yR rfl ?_
 refine yN ?_
 refine run_ret_to ?_
 obtain rfl := some_t hM
 refine fin_x hG rfl rfl rfl (v' := .bool false) (by rfl) ⟨_, ⟨3, 1, true, [[.int .i64 (IntKind.i64.wrap (i3 + 1))]]⟩, rfl, rfl, (show tk ≤ tk by omega), ⟨_, (IntKind.i64.wrap (i3 + 1)), rfl, rfl, rfl⟩⟩

def i_Tree_binds__c (x1 : T) (i2 : Int) : Option Bool :=
 if x1.kind = 4 then
  some true
 else
  if x1.kind = 2 then
   some (i2 == 1)
  else
   some false

set_option maxRecDepth 100000 in
theorem i_Tree_binds__c_ok : ∀ (k1 : Int) (n1 : Int) (s1 : ByteArray) (q1 : Nat) (f1 : Bool) (ks1 : List LT) (i2 : Int) {r : Bool}, i_Tree_binds__c (T.mk k1 n1 s1 (ers ks1)) i2 = some r → ∀ (O : Heap) (tk : Nat), ACalls Go.Proofs.Try.prog 208 [.cptr [.int .i64 k1, .int .i64 n1, .str s1, .imm q1 4 f1 (cellss ks1)], .int .i64 i2] O tk (RetX O tk (fun v tk' => v = .bool r)) := by
 intro k1 n1 s1 q1 f1 ks1 i2 r hM O tk
 unfold i_Tree_binds__c at hM
 refine acalls_of_run Go.Proofs.Try.func208 rfl rfl [] [] (Bor.nil _) [(0, .cptr [.int .i64 k1, .int .i64 n1, .str s1, .imm q1 4 f1 (cellss ks1)]), (1, .int .i64 i2)] (.cons (.cptr _) (.cons (entS rfl) (.nil _))) (leb rfl) (fun _ h => by cases h) (fun S0 hO htk hfz => ?_)
 refine run_sr ?_
 refine yR rfl ?_
 refine yN ?_
 refine run_sr ?_
 refine yL rfl ?_
 refine run_pu rfl (nilCheck_step rfl rfl ⟨_, rfl⟩) rfl (ltb rfl) ?_
 refine yF hG rfl ?_
 refine yD hG rfl ?_
 refine yB rfl ?_
 refine yL rfl ?_
 refine run_splitd (i := 10) rfl (fun hb3 => ?_) (fun hb3 => ?_)
 ·replace hM := ite_t hb3 hM
  refine yO rfl ?_
  refine yO rfl ?_
  refine yO rfl ?_
  refine yO rfl ?_
  refine yO rfl ?_
  refine yO rfl ?_
  refine run_off (off_un rfl rfl rfl) rfl (ltb rfl) ?_
  refine run_off (off_un rfl rfl rfl) rfl (ltb rfl) ?_
  refine yO rfl ?_
  refine yP rfl ?_
  refine yR rfl ?_
  refine yN ?_
  refine run_ret_to ?_
  obtain rfl := some_t hM
  refine fin_x hG rfl rfl rfl (v' := .bool true) (by rfl) ⟨rfl, (show tk ≤ tk by omega), _, rfl, rfl⟩
 replace hM := ite_f hb3 hM
 refine run_puG (on_of rfl rfl rfl rfl) (move_step (.inl rfl) rfl) rfl (ltb rfl) ?_
 refine run_puG (on_of rfl rfl rfl rfl) (nilCheck_step rfl rfl ⟨_, rfl⟩) rfl (ltb rfl) ?_
 refine run_puG (on_of rfl rfl rfl rfl) (fieldAddr_step hG rfl rfl rfl rfl rfl) rfl (ltb rfl) ?_
 refine run_rdG (on_of rfl rfl rfl rfl) (aload_rd hG rfl rfl rfl (by simp [ldok])) rfl (ltb rfl) ?_
 refine run_puG (on_of rfl rfl rfl rfl) (abin_step rfl rfl rfl rfl (fun _ h => by cases h)) rfl (ltb rfl) ?_
 refine run_puG (on_of rfl rfl rfl rfl) (move_step (.inl rfl) rfl) rfl (ltb rfl) ?_
 refine run_splitd (i := 16) rfl (fun hb4 => ?_) (fun hb4 => ?_)
 ·replace hM := ite_t hb4 hM
  refine run_puG (on_of rfl rfl rfl rfl) (move_step (.inl rfl) rfl) rfl (ltb rfl) ?_
  refine run_puG (on_of rfl rfl rfl rfl) (abin_step rfl rfl rfl rfl (fun _ h => by cases h)) rfl (ltb rfl) ?_
  refine run_puG (on_of rfl rfl rfl rfl) (pick_step rfl rfl rfl) rfl (ltb rfl) ?_
  refine yP rfl ?_
  refine yR rfl ?_
  refine yN ?_
  refine run_ret_to ?_
  obtain rfl := some_t hM
  refine fin_x hG rfl rfl rfl (v' := .bool (i2 == 1)) (by rfl) ⟨rfl, (show tk ≤ tk by omega), _, rfl, rfl⟩
 replace hM := ite_f hb4 hM
 refine yO rfl ?_
 refine yO rfl ?_
 refine run_puG (on_of rfl rfl rfl rfl) (pick_step rfl rfl rfl) rfl (ltb rfl) ?_
 refine yP rfl ?_
 refine yR rfl ?_
 refine yN ?_
 refine run_ret_to ?_
 obtain rfl := some_t hM
 refine fin_x hG rfl rfl rfl (v' := .bool false) (by rfl) ⟨rfl, (show tk ≤ tk by omega), _, rfl, rfl⟩

def i_Tree_under__c (x1 : T) (i2 : Int) : Option Int :=
 (i_Tree_binds__c x1 i2).bind fun r3 =>
 if r3 = true then
  some 1
 else
  some 0

set_option maxRecDepth 100000 in
theorem i_Tree_under__c_ok : ∀ (k1 : Int) (n1 : Int) (s1 : ByteArray) (q1 : Nat) (f1 : Bool) (ks1 : List LT) (i2 : Int) {r : Int}, i_Tree_under__c (T.mk k1 n1 s1 (ers ks1)) i2 = some r → ∀ (O : Heap) (tk : Nat), ACalls Go.Proofs.Try.prog 203 [.cptr [.int .i64 k1, .int .i64 n1, .str s1, .imm q1 4 f1 (cellss ks1)], .int .i64 i2] O tk (RetX O tk (fun v tk' => v = .int .i64 r)) := by
 intro k1 n1 s1 q1 f1 ks1 i2 r hM O tk
 unfold i_Tree_under__c at hM
 refine acalls_of_run Go.Proofs.Try.func203 rfl rfl [] [] (Bor.nil _) [(0, .cptr [.int .i64 k1, .int .i64 n1, .str s1, .imm q1 4 f1 (cellss ks1)]), (1, .int .i64 i2)] (.cons (.cptr _) (.cons (entS rfl) (.nil _))) (leb rfl) (fun _ h => by cases h) (fun S0 hO htk hfz => ?_)
 refine run_sr ?_
 refine yR rfl ?_
 refine yN ?_
 refine run_seq ?_
 refine run_sr ?_
 refine yL rfl ?_
 refine yL rfl ?_
 obtain ⟨r3, hg4, hM⟩ := bind_t hM
 refine yK rfl (i_Tree_binds__c_ok k1 n1 s1 q1 f1 ks1 i2 hg4 _ _) (callK_retX (fun v tk5 (hle6 : tk ≤ tk5) h7 => ?_))
 subst h7
 refine yN ?_
 refine run_ifb rfl rfl (fun hb10 => ?_) (fun hb10 => ?_)
 ·replace hM := ite_t hb10 hM
  refine run_sr ?_
  refine yR rfl ?_
  refine yN ?_
  refine run_ret_to ?_
  obtain rfl := some_t hM
  refine fin_x hG rfl rfl rfl (v' := .int .i64 1) (by rfl) ⟨rfl, (show tk ≤ tk5 by omega), _, rfl, rfl⟩
 replace hM := ite_f hb10 hM
 refine run_skip ?_
 refine run_sr ?_
 refine yR rfl ?_
 refine yN ?_
 refine run_ret_to ?_
 obtain rfl := some_t hM
 refine fin_x hG rfl rfl rfl (v' := .int .i64 0) (by rfl) ⟨rfl, (show tk ≤ tk5 by omega), _, rfl, rfl⟩

def i_Tree_each__c_fn_i_tooBig_c1v_L1 (rec_i_Tree_each__c_fn_i_tooBig_c1v : T → Int → Int → Option (Bool × Int)) (x1 : T) (i2 : Int) : Nat → Int → Int → Option (Bool × Int)
 | 0, _, _ => none
 | m + 1, i14, i15 =>
  if i14 < ((x1.kids).length : Int) then
   (idx x1.kids i14).bind fun y17 =>
   (i_Tree_under__c x1 i14).bind fun r22 =>
   (rec_i_Tree_each__c_fn_i_tooBig_c1v y17 (IntKind.i64.wrap (i2 + r22)) i15).bind fun r29 =>
   if r29.1 = true then
    some (true, r29.2)
   else
    i_Tree_each__c_fn_i_tooBig_c1v_L1 rec_i_Tree_each__c_fn_i_tooBig_c1v x1 i2 m (IntKind.i64.wrap (i14 + 1)) r29.2
  else
   some (false, i15)

def i_Tree_each__c_fn_i_tooBig_c1v : Nat → T → Int → Int → Option (Bool × Int)
 | 0, _, _, _ => none
 | n + 1, x1, i2, i3 =>
  (i_tooBig_c1__c x1 i2 i3).bind fun r4 =>
  if r4.1 = true then
   some (true, r4.2)
  else
   i_Tree_each__c_fn_i_tooBig_c1v_L1 (i_Tree_each__c_fn_i_tooBig_c1v n) x1 i2 n 0 r4.2

def i_Tree_each__c_fn_i_tooBig_c1v_P (n : Nat) : Prop := ∀ (k1 : Int) (n1 : Int) (s1 : ByteArray) (q1 : Nat) (f1 : Bool) (ks1 : List LT) (i2 : Int) (X0 : ID) (i3 : Int) {r : (Bool × Int)}, i_Tree_each__c_fn_i_tooBig_c1v n (T.mk k1 n1 s1 (ers ks1)) i2 i3 = some r → ∀ (O : Heap) (tk : Nat), O X0 = some ⟨3, 1, true, [[.int .i64 i3]]⟩ → ACalls Go.Proofs.Try.prog 156 [.cptr [.int .i64 k1, .int .i64 n1, .str s1, .imm q1 4 f1 (cellss ks1)], .int .i64 i2, .fn (.func 157) [] [.optr X0 0 0]] O tk (RetV O X0 tk (fun v o' tk' => ∃ r0', ∃ (c0 : Int) , r = (r0', c0) ∧ o' = ⟨3, 1, true, [[.int .i64 c0]]⟩ ∧ v = .bool r0'))

set_option maxHeartbeats 20000000 in
set_option maxRecDepth 100000 in
theorem i_Tree_each__c_fn_i_tooBig_c1v_st (n : Nat) (ih_i_Tree_each__c_fn_i_tooBig_c1v : i_Tree_each__c_fn_i_tooBig_c1v_P n) : i_Tree_each__c_fn_i_tooBig_c1v_P (n + 1) := by
 intro k1 n1 s1 q1 f1 ks1 i2 X0 i3 r hM O tk hX0
 rw [i_Tree_each__c_fn_i_tooBig_c1v] at hM
 refine acalls_of_run Go.Proofs.Try.func156 rfl rfl [X0] [⟨3, 1, true, [[.int .i64 i3]]⟩] (Bor.one hX0 rfl) [(0, .cptr [.int .i64 k1, .int .i64 n1, .str s1, .imm q1 4 f1 (cellss ks1)]), (1, .int .i64 i2), (2, .fn (.func 157) [] [.optr (.bor 0) 0 0])] (.cons (.cptr _) (.cons (entS rfl) (.cons (ent_fn (.bor 0 _ _ _ rfl)) (.nil _)))) (leb rfl) (by intro y h; simp only [List.mem_cons, List.not_mem_nil, or_false] at h; rcases h with rfl <;> simp [tch, tch0]) (fun S0 hO htk hfz => ?_)
 refine run_sr ?_
 refine yR rfl ?_
 refine yN ?_
 refine run_seq ?_
 refine run_sr ?_
 refine yL rfl ?_
 refine yL rfl ?_
 refine yL rfl ?_
 obtain ⟨r4, hg5, hM⟩ := bind_t hM
 refine yK rfl (i_tooBig_c1__c_ok k1 n1 s1 q1 f1 ks1 i2 (.bor 0) i3 hg5 _ _ rfl) (callK_retV_bor (k := 0) rfl (fun v o' tk' h => by obtain ⟨_, _, rfl, rfl, _⟩ := h; rfl) (fun v o' tk6 (hle7 : tk ≤ tk6) h8 => ?_))
 obtain ⟨ra12, c11, rfl, rfl, rfl⟩ := h8
 refine yN ?_
 refine run_ifb rfl rfl (fun hb13 => ?_) (fun hb13 => ?_)
 ·replace hM := ite_t hb13 hM
  refine run_sr ?_
  refine yR rfl ?_
  refine yN ?_
  refine run_ret_to ?_
  obtain rfl := some_t hM
  refine fin_x hG rfl rfl rfl (v' := .bool true) (by rfl) ⟨_, ⟨3, 1, true, [[.int .i64 c11]]⟩, rfl, rfl, (show tk ≤ tk6 by omega), ⟨_, c11, rfl, rfl, rfl⟩⟩
 replace hM := ite_f hb13 hM
 refine run_skip ?_
 refine run_seq ?_
 refine run_sr ?_
 refine yL rfl ?_
 refine run_pu rfl (nilCheck_step rfl rfl ⟨_, rfl⟩) rfl (ltb rfl) ?_
 refine yF hG rfl ?_
 refine yD hG rfl ?_
 refine run_pu rfl (lenImm_step hG rfl rfl rfl rfl (tlen _)) rfl (ltb rfl) ?_
 refine yL rfl ?_
 refine yN ?_
 refine run_block ?_
 refine run_rounds (fun m σ => ∃ (i14 : Int) (i15 : Int) (tki_Tree_each__c_fn_i_tooBig_c1v_L1 : Nat), tk6 ≤ tki_Tree_each__c_fn_i_tooBig_c1v_L1 ∧ i_Tree_each__c_fn_i_tooBig_c1v_L1 (i_Tree_each__c_fn_i_tooBig_c1v n) (T.mk k1 n1 s1 (ers ks1)) i2 m i14 i15 = some r ∧ σ = ⟨[(0, .cptr [.int .i64 k1, .int .i64 n1, .str s1, .imm q1 4 f1 (cellss ks1)]), (1, .int .i64 i2), (2, .fn (.func 157) [] [.optr (.bor 0) 0 0]), (6, .bool false), (16, .int .i64 (((ers ks1)).length : Int)), (17, .int .i64 i14)], [], [⟨3, 1, true, [[.int .i64 i15]]⟩], O, tki_Tree_each__c_fn_i_tooBig_c1v_L1⟩) n (Sub.pk [0, 1, 2, 6, 16, 17] rfl) ⟨0, c11, tk6, Nat.le_refl _, hM, rfl⟩ (fun m σ hI => ?_)
 clear hM
 obtain ⟨i14, i15, tki_Tree_each__c_fn_i_tooBig_c1v_L1, hle39, hM, rfl⟩ := hI
 obtain _ | m := m
 ·exact absurd hM (by rw [i_Tree_each__c_fn_i_tooBig_c1v_L1]; exact fun h => by cases h)
 rw [i_Tree_each__c_fn_i_tooBig_c1v_L1] at hM
 refine run_sr ?_
 refine yB rfl ?_
 refine yN ?_
 refine run_seq ?_
 refine run_ifd rfl rfl (fun hb16 => ?_) (fun hb16 => ?_)
 ·replace hM := ite_t hb16 hM
  refine run_skip ?_
  refine run_seq ?_
  refine run_block ?_
  refine run_sr ?_
  refine yL rfl ?_
  refine yR rfl ?_
  refine yN ?_
  refine run_seq ?_
  refine run_draw [.bor 0] (n := 13) mixed rfl (by intro x hx; simp only [List.mem_cons, List.not_mem_nil, or_false] at hx; rcases hx with rfl <;> rfl) ?_
  refine yTV 0 (by kernel_rfl) rfl ?_
  refine yT 1 (by kernel_rfl) rfl rfl rfl (ltb rfl) ((nilCheck_step rfl rfl ⟨_, rfl⟩).rd _) ?_
  refine yTF hG 2 (by kernel_rfl) rfl ?_
  refine yTL hG 3 (by kernel_rfl) rfl ?_
  refine yTV 4 (by kernel_rfl) rfl ?_
  obtain ⟨y17, hy18, hM⟩ := bind_t hM
  obtain ⟨k19, n19, s19, q19, f19, ks19, rfl, hc20, hi21⟩ := tidx hy18
  refine yT 5 (by kernel_rfl) rfl rfl rfl (ltb rfl) ((indexImm_step hG rfl rfl rfl hi21 rfl rfl rfl rfl hc20).rd _) ?_
  refine yTV 6 (by kernel_rfl) rfl ?_
  refine yTV 7 (by kernel_rfl) rfl ?_
  refine yTV 8 (by kernel_rfl) rfl ?_
  refine yTV 11 (by kernel_rfl) rfl ?_
  obtain ⟨r22, hg23, hM⟩ := bind_t hM
  refine yC 9 (by kernel_rfl) rfl rfl (i_Tree_under__c_ok k1 n1 s1 q1 f1 ks1 i14 hg23 _ _) (callK_retX (fun v tk24 (hle25 : tki_Tree_each__c_fn_i_tooBig_c1v_L1 ≤ tk24) h26 => ?_))
  subst h26
  refine yT 10 (by kernel_rfl) rfl rfl rfl (ltb rfl) ((abin_step rfl rfl rfl rfl (fun _ h => by cases h)).rd _) ?_
  obtain ⟨r29, hg30, hM⟩ := bind_t hM
  refine AAny.one (i := 12) (by kernel_rfl) (AOp.call rfl rfl rfl rfl (ltb rfl) rfl rfl rfl yE (by intro x hx; simp only [tch, tch0, List.nil_append, List.append_nil, List.mem_cons, List.not_mem_nil, or_false] at hx; subst hx; simp) (ih_i_Tree_each__c_fn_i_tooBig_c1v k19 n19 s19 q19 f19 ks19 (IntKind.i64.wrap (i2 + r22)) (.bor 0) i15 hg30 _ _ rfl) (callK_retV_bor (k := 0) rfl (fun v o' tk' h => by obtain ⟨_, _, rfl, rfl, _⟩ := h; rfl) (fun v o' tk31 (hle32 : tk24 ≤ tk31) h33 => ?_)))
  obtain ⟨ra37, c36, rfl, rfl, rfl⟩ := h33
  refine AAny.done (by kernel_rfl) ?_
  refine run_sub_code (σ' := ⟨[(0, .cptr [.int .i64 k1, .int .i64 n1, .str s1, .imm q1 4 f1 (cellss ks1)]), (1, .int .i64 i2), (2, .fn (.func 157) [] [.optr (.bor 0) 0 0]), (6, .bool false), (16, .int .i64 (((ers ks1)).length : Int)), (17, .int .i64 i14), (32, .bool ra37)], [], [⟨3, 1, true, [[.int .i64 c36]]⟩], O, tk31⟩) (Sub.env _ ⟨rfl, rfl, rfl, rfl, rfl, rfl, rfl, trivial⟩) ?_
  refine run_ifb rfl rfl (fun hb38 => ?_) (fun hb38 => ?_)
  ·replace hM := ite_t hb38 hM
   refine run_sr ?_
   refine yR rfl ?_
   refine yN ?_
   refine run_ret_to ?_
   obtain rfl := some_t hM
   refine fin_x hG rfl rfl rfl (v' := .bool true) (by rfl) ⟨_, ⟨3, 1, true, [[.int .i64 c36]]⟩, rfl, rfl, (show tk ≤ tk31 by omega), ⟨_, c36, rfl, rfl, rfl⟩⟩
  replace hM := ite_f hb38 hM
  refine run_skip ?_
  refine run_blk ?_
  refine run_region ?_
  refine yB rfl ?_
  refine yL rfl ?_
  refine yN ?_
  exact run_loop_end ⟨m, _, Nat.lt_succ_self _, ⟨(IntKind.i64.wrap (i14 + 1)), c36, tk31, (show tk6 ≤ tk31 by omega), hM, rfl⟩, Sub.pk [0, 1, 2, 6, 16, 17] rfl⟩
 replace hM := ite_f hb16 hM
 refine run_exit_to rfl ?_
 refine run_sr ?_
 refine yR rfl ?_
 refine yN ?_
 refine run_ret_to ?_
 obtain rfl := some_t hM
 refine fin_x hG rfl rfl rfl (v' := .bool false) (by rfl) ⟨_, ⟨3, 1, true, [[.int .i64 i15]]⟩, rfl, rfl, (show tk ≤ tki_Tree_each__c_fn_i_tooBig_c1v_L1 by omega), ⟨_, i15, rfl, rfl, rfl⟩⟩

theorem i_Tree_each__c_fn_i_tooBig_c1v_all : ∀ (n : Nat), (i_Tree_each__c_fn_i_tooBig_c1v_P n)
 | 0 => by intro k1 n1 s1 q1 f1 ks1 i2 X0 i3 r hM; rw [i_Tree_each__c_fn_i_tooBig_c1v] at hM; cases hM
 | n + 1 => have ih := i_Tree_each__c_fn_i_tooBig_c1v_all n; i_Tree_each__c_fn_i_tooBig_c1v_st n (ih)

theorem i_Tree_each__c_fn_i_tooBig_c1v_ok (n : Nat) : i_Tree_each__c_fn_i_tooBig_c1v_P n := i_Tree_each__c_fn_i_tooBig_c1v_all n

def i_tooBig (n : Nat) (x1 : T) : Option Bool :=
 (i_Tree_each__c_fn_i_tooBig_c1v n x1 0 0).bind fun r2 =>
 some r2.1

set_option maxRecDepth 100000 in
theorem i_tooBig_ok (n : Nat) : ∀ (k1 : Int) (n1 : Int) (s1 : ByteArray) (q1 : Nat) (f1 : Bool) (ks1 : List LT) {r : Bool}, i_tooBig n (T.mk k1 n1 s1 (ers ks1)) = some r → ∀ (O : Heap) (tk : Nat), ACalls Go.Proofs.Try.prog 77 [.agg [.int .i64 k1, .int .i64 n1, .str s1, .imm q1 4 f1 (cellss ks1)]] O tk (RetX O tk (fun v tk' => v = .bool r)) := by
 intro k1 n1 s1 q1 f1 ks1 r hM O tk
 unfold i_tooBig at hM
 refine acalls_of_run Go.Proofs.Try.func77 rfl rfl [] [] (Bor.nil _) [(0, .agg [.int .i64 k1, .int .i64 n1, .str s1, .imm q1 4 f1 (cellss ks1)])] (.cons (.agg _) (.nil _)) (leb rfl) (fun _ h => by cases h) (fun S0 hO htk hfz => ?_)
 refine run_sr ?_
 refine run_op rfl (box_step (d := 1) rfl rfl rfl rfl rfl) rfl (ltb rfl) ?_
 refine yR rfl ?_
 refine yN ?_
 refine run_sr ?_
 refine run_op rfl (alloc_step (d := 3) hG rfl rfl rfl) rfl (ltb rfl) ?_
 refine yS hG rfl ?_
 refine yN ?_
 refine run_sr ?_
 refine run_pu rfl (makeFunc_step (first := []) (cap := [.tmp 3]) rfl rfl rfl) rfl (ltb rfl) ?_
 refine run_sub_ops (Sub.frbox (k := 1) (env' := [(0, .agg [.int .i64 k1, .int .i64 n1, .str s1, .imm q1 4 f1 (cellss ks1)]), (1, .cptr [.int .i64 k1, .int .i64 n1, .str s1, .imm q1 4 f1 (cellss ks1)]), (2, .bool false), (3, .optr (.loc 3) 0 0), (4, .fn (.func 157) [] [.optr (.loc 3) 0 0])]) rfl rfl (.keep 0 _ _ rfl (.ptr 1 0 _ rfl (.keep 2 _ _ rfl (.keep 3 _ _ rfl (.keep 4 _ _ rfl .nil)))))) ?_
 obtain ⟨r2, hg3, hM⟩ := bind_t hM
 refine yK rfl (i_Tree_each__c_fn_i_tooBig_c1v_ok n k1 n1 s1 q1 f1 ks1 0 (.loc 3) 0 hg3 _ _ rfl) (callK_retV_loc (k := 3) rfl (fun v o' tk4 (hle5 : tk ≤ tk4) h6 => ?_))
 obtain ⟨ra10, c9, rfl, rfl, rfl⟩ := h6
 refine yR rfl ?_
 refine yN ?_
 refine run_ret_to ?_
 obtain rfl := some_t hM
 refine fin_x hG rfl rfl rfl (v' := .bool ra10) (by rfl) ⟨rfl, (show tk ≤ tk4 by omega), _, rfl, rfl⟩

end Go.Am.Ytpkeophkdemcpaa
