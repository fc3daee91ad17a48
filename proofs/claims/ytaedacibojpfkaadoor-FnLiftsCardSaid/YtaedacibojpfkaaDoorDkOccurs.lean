/- Printed by a program of ours: Lean functions that do what the Go functions do, and the contracts. -/
import Derived.Test.YtaedacibojpfkaaDoorMl0
import Derived.Test.YtaedacibojpfkaaDoorMb1
import Derived.Test.YtaedacibojpfkaaDoorTypes
import Derived.Test.YtaedacibojpfkaaDoorDkFam
-- packed
namespace Go.Am.YtaedacibojpfkaaDoor
open Go Go.Am

def i_Tree_binds (x1 : T) (i2 : Int) : Option Bool :=
 if x1.kind = 4 then
  some true
 else
  if x1.kind = 2 then
   some (i2 == 1)
  else
   some false

set_option maxRecDepth 100000 in
theorem i_Tree_binds_ok : ∀ (X0 : ID) (k1 : Int) (n1 : Int) (s1 : ByteArray) (q1 : Nat) (f1 : Bool) (ks1 : List LT) (i2 : Int) {r : Bool}, i_Tree_binds (T.mk k1 n1 s1 (ers ks1)) i2 = some r → ∀ (O : Heap) (tk : Nat), O X0 = some ⟨25, 4, true, [[.int .i64 k1, .int .i64 n1, .str s1, .imm q1 4 f1 (cellss ks1)]]⟩ → ACalls Go.Proofs.Tryd.prog 149 [.optr X0 0 0, .int .i64 i2] O tk (RetX O tk (fun v tk' => v = .bool r)) := by
 intro X0 k1 n1 s1 q1 f1 ks1 i2 r hM O tk hX0
 unfold i_Tree_binds at hM
 refine acalls_of_run Go.Proofs.Tryd.func149 rfl rfl [X0] [⟨25, 4, true, [[.int .i64 k1, .int .i64 n1, .str s1, .imm q1 4 f1 (cellss ks1)]]⟩] (Bor.one hX0 rfl) [(0, .optr (.bor 0) 0 0), (1, .int .i64 i2)] (.cons (.bor 0 _ _ _ rfl) (.cons (entS rfl) (.nil _))) (leb rfl) (by intro y h; simp only [List.mem_cons, List.not_mem_nil, or_false] at h; rcases h with rfl <;> simp [tch, tch0]) (fun S0 hO htk hfz => ?_)
 refine run_sr ?_
 refine mvR rfl rfl rfl rfl (ltb rfl) ?_
 refine run_ops_nil ?_
 refine run_sr ?_
 refine mvL rfl rfl rfl rfl (ltb rfl) ?_
 refine run_pu rfl (nilCheck_step rfl rfl ⟨_, rfl⟩) rfl (ltb rfl) ?_
 refine run_pu rfl (fieldAddr_step hG rfl rfl rfl rfl rfl) rfl (ltb rfl) ?_
 refine run_ld hG rfl rfl rfl rfl rfl (ltb rfl) ?_
 refine run_bin rfl rfl rfl rfl rfl rfl rfl (ltb rfl) ?_
 refine mvL rfl rfl rfl rfl (ltb rfl) ?_
 refine run_splitd (i := 10) rfl (fun hb3 => ?_) (fun hb3 => ?_)
 ·replace hM := ite_t hb3 hM
  refine run_off (on_of rfl rfl rfl rfl) rfl (ltb rfl) ?_
  refine run_off (on_of rfl rfl rfl rfl) rfl (ltb rfl) ?_
  refine run_off (on_of rfl rfl rfl rfl) rfl (ltb rfl) ?_
  refine run_off (on_of rfl rfl rfl rfl) rfl (ltb rfl) ?_
  refine run_off (on_of rfl rfl rfl rfl) rfl (ltb rfl) ?_
  refine run_off (on_of rfl rfl rfl rfl) rfl (ltb rfl) ?_
  refine run_off (off_un rfl rfl rfl) rfl (ltb rfl) ?_
  refine run_off (off_un rfl rfl rfl) rfl (ltb rfl) ?_
  refine run_off (on_of rfl rfl rfl rfl) rfl (ltb rfl) ?_
  refine run_pu rfl (pick_step rfl rfl rfl) rfl (ltb rfl) ?_
  refine mvR rfl rfl rfl rfl (ltb rfl) ?_
  refine run_ops_nil ?_
  refine run_ret_to ?_
  obtain rfl := some_t hM
  refine fin_x hG rfl rfl rfl (v' := .bool true) (by rfl) ⟨out_same (Bor.one hX0 rfl), (show tk ≤ tk by omega), _, rfl, rfl⟩
 ·replace hM := ite_f hb3 hM
  refine run_puG (on_of rfl rfl rfl rfl) (move_step (.inl rfl) rfl) rfl (ltb rfl) ?_
  refine run_puG (on_of rfl rfl rfl rfl) (nilCheck_step rfl rfl ⟨_, rfl⟩) rfl (ltb rfl) ?_
  refine run_puG (on_of rfl rfl rfl rfl) (fieldAddr_step hG rfl rfl rfl rfl rfl) rfl (ltb rfl) ?_
  refine run_rdG (on_of rfl rfl rfl rfl) (aload_rd hG rfl rfl rfl (by first | (simp [ldok]; done) | exact List.not_mem_nil | trivial)) rfl (ltb rfl) ?_
  refine run_puG (on_of rfl rfl rfl rfl) (abin_step rfl rfl rfl rfl (fun _ h => by cases h)) rfl (ltb rfl) ?_
  refine run_puG (on_of rfl rfl rfl rfl) (move_step (.inl rfl) rfl) rfl (ltb rfl) ?_
  refine run_splitd (i := 16) rfl (fun hb4 => ?_) (fun hb4 => ?_)
  ·replace hM := ite_t hb4 hM
   refine run_puG (on_of rfl rfl rfl rfl) (move_step (.inl rfl) rfl) rfl (ltb rfl) ?_
   refine run_puG (on_of rfl rfl rfl rfl) (abin_step rfl rfl rfl rfl (fun _ h => by cases h)) rfl (ltb rfl) ?_
   refine run_puG (on_of rfl rfl rfl rfl) (pick_step rfl rfl rfl) rfl (ltb rfl) ?_
   refine run_pu rfl (pick_step rfl rfl rfl) rfl (ltb rfl) ?_
   refine mvR rfl rfl rfl rfl (ltb rfl) ?_
   refine run_ops_nil ?_
   refine run_ret_to ?_
   obtain rfl := some_t hM
   refine fin_x hG rfl rfl rfl (v' := .bool (i2 == 1)) (by rfl) ⟨out_same (Bor.one hX0 rfl), (show tk ≤ tk by omega), _, rfl, rfl⟩
  ·replace hM := ite_f hb4 hM
   refine run_off (on_of rfl rfl rfl rfl) rfl (ltb rfl) ?_
   refine run_off (on_of rfl rfl rfl rfl) rfl (ltb rfl) ?_
   refine run_puG (on_of rfl rfl rfl rfl) (pick_step rfl rfl rfl) rfl (ltb rfl) ?_
   refine run_pu rfl (pick_step rfl rfl rfl) rfl (ltb rfl) ?_
   refine mvR rfl rfl rfl rfl (ltb rfl) ?_
   refine run_ops_nil ?_
   refine run_ret_to ?_
   obtain rfl := some_t hM
   refine fin_x hG rfl rfl rfl (v' := .bool false) (by rfl) ⟨out_same (Bor.one hX0 rfl), (show tk ≤ tk by omega), _, rfl, rfl⟩

def i_Tree_under (x1 : T) (i2 : Int) : Option Int :=
 (i_Tree_binds x1 i2).bind fun r3 =>
 if r3 = true then
  some 1
 else
  some 0

set_option maxRecDepth 100000 in
theorem i_Tree_under_ok : ∀ (X0 : ID) (k1 : Int) (n1 : Int) (s1 : ByteArray) (q1 : Nat) (f1 : Bool) (ks1 : List LT) (i2 : Int) {r : Int}, i_Tree_under (T.mk k1 n1 s1 (ers ks1)) i2 = some r → ∀ (O : Heap) (tk : Nat), O X0 = some ⟨25, 4, true, [[.int .i64 k1, .int .i64 n1, .str s1, .imm q1 4 f1 (cellss ks1)]]⟩ → ACalls Go.Proofs.Tryd.prog 124 [.optr X0 0 0, .int .i64 i2] O tk (RetX O tk (fun v tk' => v = .int .i64 r)) := by
 intro X0 k1 n1 s1 q1 f1 ks1 i2 r hM O tk hX0
 unfold i_Tree_under at hM
 refine acalls_of_run Go.Proofs.Tryd.func124 rfl rfl [X0] [⟨25, 4, true, [[.int .i64 k1, .int .i64 n1, .str s1, .imm q1 4 f1 (cellss ks1)]]⟩] (Bor.one hX0 rfl) [(0, .optr (.bor 0) 0 0), (1, .int .i64 i2)] (.cons (.bor 0 _ _ _ rfl) (.cons (entS rfl) (.nil _))) (leb rfl) (by intro y h; simp only [List.mem_cons, List.not_mem_nil, or_false] at h; rcases h with rfl <;> simp [tch, tch0]) (fun S0 hO htk hfz => ?_)
 refine run_sr ?_
 refine mvR rfl rfl rfl rfl (ltb rfl) ?_
 refine run_ops_nil ?_
 refine run_seq ?_
 refine run_sr ?_
 refine mvL rfl rfl rfl rfl (ltb rfl) ?_
 refine mvL rfl rfl rfl rfl (ltb rfl) ?_
 obtain ⟨r3, hg4, hM⟩ := bind_t hM
 refine run_call rfl rfl rfl (ltb rfl) rfl rfl rfl (fun _ h => absurd h List.not_mem_nil) (i_Tree_binds_ok (.bor 0) k1 n1 s1 q1 f1 ks1 i2 hg4 _ _ rfl) (callK_retX (fun v tk5 (hle6 : tk ≤ tk5) h7 => ?_))
 subst h7
 refine run_ops_nil ?_
 refine run_ifb rfl rfl (fun hb10 => ?_) (fun hb10 => ?_)
 ·replace hM := ite_t hb10 hM
  refine run_sr ?_
  refine mvR rfl rfl rfl rfl (ltb rfl) ?_
  refine run_ops_nil ?_
  refine run_ret_to ?_
  obtain rfl := some_t hM
  refine fin_x hG rfl rfl rfl (v' := .int .i64 1) (by rfl) ⟨out_same (Bor.one hX0 rfl), (show tk ≤ tk5 by omega), _, rfl, rfl⟩
 ·replace hM := ite_f hb10 hM
  refine run_skip ?_
  refine run_sr ?_
  refine mvR rfl rfl rfl rfl (ltb rfl) ?_
  refine run_ops_nil ?_
  refine run_ret_to ?_
  obtain rfl := some_t hM
  refine fin_x hG rfl rfl rfl (v' := .int .i64 0) (by rfl) ⟨out_same (Bor.one hX0 rfl), (show tk ≤ tk5 by omega), _, rfl, rfl⟩

def i_treeOK (n : Nat) (x1 : T) : Option Bool :=
 (i_TermOK n x1).bind fun r2 =>
 if r2 = true then
  some true
 else
  (i_FamilyOK n x1).bind fun r10 =>
  if r10 = true then
   some true
  else
   (i_KindOK n x1).bind fun r18 =>
   some r18

set_option maxRecDepth 100000 in
theorem i_treeOK_ok (n : Nat) : ∀ (k1 : Int) (n1 : Int) (s1 : ByteArray) (q1 : Nat) (f1 : Bool) (ks1 : List LT) {r : Bool}, i_treeOK n (T.mk k1 n1 s1 (ers ks1)) = some r → ∀ (O : Heap) (tk : Nat), ACalls Go.Proofs.Tryd.prog 69 [.agg [.int .i64 k1, .int .i64 n1, .str s1, .imm q1 4 f1 (cellss ks1)]] O tk (RetX O tk (fun v tk' => v = .bool r)) := by
 intro k1 n1 s1 q1 f1 ks1 r hM O tk
 unfold i_treeOK at hM
 refine acalls_of_run Go.Proofs.Tryd.func69 rfl rfl [] [] (Bor.nil _) [(0, .agg [.int .i64 k1, .int .i64 n1, .str s1, .imm q1 4 f1 (cellss ks1)])] (.cons (.agg _) (.nil _)) (leb rfl) (fun _ h => by cases h) (fun S0 hO htk hfz => ?_)
 refine run_sr ?_
 refine run_op rfl (box_step (d := 1) rfl rfl rfl rfl rfl) rfl (ltb rfl) ?_
 refine mvR rfl rfl rfl rfl (ltb rfl) ?_
 refine run_ops_nil ?_
 refine run_sr ?_
 refine run_ld hG rfl rfl rfl rfl rfl (ltb rfl) ?_
 obtain ⟨r2, hg3, hM⟩ := bind_t hM
 refine run_call rfl rfl rfl (ltb rfl) rfl rfl rfl (fun _ h => absurd h List.not_mem_nil) (i_TermOK_ok n k1 n1 s1 q1 f1 ks1 hg3 _ _) (callK_retX (fun v tk4 (hle5 : tk ≤ tk4) h6 => ?_))
 subst h6
 refine mvL rfl rfl rfl rfl (ltb rfl) ?_
 refine run_splitb (i := 5) rfl (fun hb9 => ?_) (fun hb9 => ?_)
 ·replace hM := ite_t hb9 hM
  refine run_off (on_of rfl rfl rfl rfl) rfl (ltb rfl) ?_
  refine run_off (on_of rfl rfl rfl rfl) rfl (ltb rfl) ?_
  refine run_pu rfl (pick_step rfl rfl rfl) rfl (ltb rfl) ?_
  refine mvL rfl rfl rfl rfl (ltb rfl) ?_
  refine run_off (on_of rfl rfl rfl rfl) rfl (ltb rfl) ?_
  refine run_off (on_of rfl rfl rfl rfl) rfl (ltb rfl) ?_
  refine run_pu rfl (pick_step rfl rfl rfl) rfl (ltb rfl) ?_
  refine mvR rfl rfl rfl rfl (ltb rfl) ?_
  refine run_ops_nil ?_
  refine run_ret_to ?_
  obtain rfl := some_t hM
  refine fin_x hG rfl rfl rfl (v' := .bool true) (by rfl) ⟨rfl, (show tk ≤ tk4 by omega), _, rfl, rfl⟩
 ·replace hM := ite_f hb9 hM
  refine run_rdG (on_of rfl rfl rfl rfl) (aload_rd hG rfl rfl rfl (by first | (simp [ldok]; done) | exact List.not_mem_nil | trivial)) rfl (ltb rfl) ?_
  obtain ⟨r10, hg11, hM⟩ := bind_t hM
  refine run_callG (on_of rfl rfl rfl rfl) rfl rfl (ltb rfl) rfl rfl rfl (fun _ h => absurd h List.not_mem_nil) (i_FamilyOK_ok n k1 n1 s1 q1 f1 ks1 hg11 _ _) (callK_retX (fun v tk12 (hle13 : tk4 ≤ tk12) h14 => ?_))
  subst h14
  refine run_pu rfl (pick_step rfl rfl rfl) rfl (ltb rfl) ?_
  refine mvL rfl rfl rfl rfl (ltb rfl) ?_
  refine run_splitb (i := 9) rfl (fun hb17 => ?_) (fun hb17 => ?_)
  ·replace hM := ite_t hb17 hM
   refine run_off (on_of rfl rfl rfl rfl) rfl (ltb rfl) ?_
   refine run_off (on_of rfl rfl rfl rfl) rfl (ltb rfl) ?_
   refine run_pu rfl (pick_step rfl rfl rfl) rfl (ltb rfl) ?_
   refine mvR rfl rfl rfl rfl (ltb rfl) ?_
   refine run_ops_nil ?_
   refine run_ret_to ?_
   obtain rfl := some_t hM
   refine fin_x hG rfl rfl rfl (v' := .bool true) (by rfl) ⟨rfl, (show tk ≤ tk12 by omega), _, rfl, rfl⟩
  ·replace hM := ite_f hb17 hM
   refine run_rdG (on_of rfl rfl rfl rfl) (aload_rd hG rfl rfl rfl (by first | (simp [ldok]; done) | exact List.not_mem_nil | trivial)) rfl (ltb rfl) ?_
   obtain ⟨r18, hg19, hM⟩ := bind_t hM
   refine run_callG (on_of rfl rfl rfl rfl) rfl rfl (ltb rfl) rfl rfl rfl (fun _ h => absurd h List.not_mem_nil) (i_KindOK_ok n k1 n1 s1 q1 f1 ks1 hg19 _ _) (callK_retX (fun v tk20 (hle21 : tk12 ≤ tk20) h22 => ?_))
   subst h22
   refine run_pu rfl (pick_step rfl rfl rfl) rfl (ltb rfl) ?_
   refine mvR rfl rfl rfl rfl (ltb rfl) ?_
   refine run_ops_nil ?_
   refine run_ret_to ?_
   obtain rfl := some_t hM
   refine fin_x hG rfl rfl rfl (v' := .bool r18) (by rfl) ⟨rfl, (show tk ≤ tk20 by omega), _, rfl, rfl⟩

def i_treeFault_L1 (l2 : List Int) : Nat → Int → Option Int
 | 0, _ => none
 | m + 1, i11 =>
  if i11 < ((l2).length : Int) then
   (idx l2 i11).bind fun y13 =>
   (i_in y13 0 100).bind fun r18 =>
   if (!r18) = true then
    some 16
   else
    i_treeFault_L1 l2 m (IntKind.i64.wrap (i11 + 1))
  else
   some 0

def i_treeFault (n : Nat) (x1 : T) (l2 : List Int) : Option Int :=
 (i_treeOK n x1).bind fun r3 =>
 if (!r3) = true then
  some 1
 else
  i_treeFault_L1 l2 n 0

set_option maxRecDepth 100000 in
theorem i_treeFault_ok (n : Nat) : ∀ (k1 : Int) (n1 : Int) (s1 : ByteArray) (q1 : Nat) (f1 : Bool) (ks1 : List LT) (q2 : Nat) (f2 : Bool) (l2 : List Int) {r : Int}, i_treeFault n (T.mk k1 n1 s1 (ers ks1)) l2 = some r → ∀ (O : Heap) (tk : Nat), ACalls Go.Proofs.Tryd.prog 35 [.agg [.int .i64 k1, .int .i64 n1, .str s1, .imm q1 4 f1 (cellss ks1)], .imm q2 1 f2 ((l2 : List Int).map fun n => [AV.int .i64 n])] O tk (RetX O tk (fun v tk' => v = .int .i64 r)) := by
 intro k1 n1 s1 q1 f1 ks1 q2 f2 l2 r hM O tk
 unfold i_treeFault at hM
 refine acalls_of_run Go.Proofs.Tryd.func35 rfl rfl [] [] (Bor.nil _) [(0, .agg [.int .i64 k1, .int .i64 n1, .str s1, .imm q1 4 f1 (cellss ks1)]), (1, .imm q2 1 f2 ((l2 : List Int).map fun n => [AV.int .i64 n]))] (.cons (.agg _) (.cons (entS rfl) (.nil _))) (leb rfl) (fun _ h => by cases h) (fun S0 hO htk hfz => ?_)
 refine run_sr ?_
 refine run_op rfl (box_step (d := 2) rfl rfl rfl rfl rfl) rfl (ltb rfl) ?_
 refine mvR rfl rfl rfl rfl (ltb rfl) ?_
 refine run_ops_nil ?_
 refine run_seq ?_
 refine run_sr ?_
 refine run_ld hG rfl rfl rfl rfl rfl (ltb rfl) ?_
 obtain ⟨r3, hg4, hM⟩ := bind_t hM
 refine run_call rfl rfl rfl (ltb rfl) rfl rfl rfl (fun _ h => absurd h List.not_mem_nil) (i_treeOK_ok n k1 n1 s1 q1 f1 ks1 hg4 _ _) (callK_retX (fun v tk5 (hle6 : tk ≤ tk5) h7 => ?_))
 subst h7
 refine run_pu rfl (aun_step rfl rfl rfl) rfl (ltb rfl) ?_
 refine run_ops_nil ?_
 refine run_ifb rfl rfl (fun hb10 => ?_) (fun hb10 => ?_)
 ·replace hM := ite_t hb10 hM
  refine run_sr ?_
  refine mvR rfl rfl rfl rfl (ltb rfl) ?_
  refine run_ops_nil ?_
  refine run_ret_to ?_
  obtain rfl := some_t hM
  refine fin_x hG rfl rfl rfl (v' := .int .i64 1) (by rfl) ⟨rfl, (show tk ≤ tk5 by omega), _, rfl, rfl⟩
 ·replace hM := ite_f hb10 hM
  refine run_skip ?_
  refine run_seq ?_
  refine run_sr ?_
  refine mvL rfl rfl rfl rfl (ltb rfl) ?_
  refine run_pu rfl (lenImm_step hG rfl rfl rfl rfl (ilen _)) rfl (ltb rfl) ?_
  refine mvL rfl rfl rfl rfl (ltb rfl) ?_
  refine run_ops_nil ?_
  refine run_block ?_
  refine run_rounds (fun m σ => ∃ (i11 : Int) (tki_treeFault_L1 : Nat), tk5 ≤ tki_treeFault_L1 ∧ i_treeFault_L1 l2 m i11 = some r ∧ σ = ⟨[(4, .int .i64 0), (10, .imm q2 1 f2 ((l2 : List Int).map fun n => [AV.int .i64 n])), (11, .int .i64 ((l2).length : Int)), (12, .int .i64 i11)], [(2, ⟨25, 4, true, [[.int .i64 k1, .int .i64 n1, .str s1, .imm q1 4 f1 (cellss ks1)]]⟩)], [], O, tki_treeFault_L1⟩) n (Sub.env [(4, .int .i64 0), (10, .imm q2 1 f2 ((l2 : List Int).map fun n => [AV.int .i64 n])), (11, .int .i64 ((l2).length : Int)), (12, .int .i64 0)] ⟨rfl, rfl, rfl, rfl, trivial⟩) ⟨0, tk5, Nat.le_refl _, hM, rfl⟩ (fun m σ hI => ?_)
  clear hM
  obtain ⟨i11, tki_treeFault_L1, hle26, hM, rfl⟩ := hI
  obtain _ | m := m
  ·exact absurd hM (by rw [i_treeFault_L1]; exact fun h => by cases h)
  rw [i_treeFault_L1] at hM
  refine run_sr ?_
  refine run_bin rfl rfl rfl rfl rfl rfl rfl (ltb rfl) ?_
  refine run_ops_nil ?_
  refine run_seq ?_
  refine run_ifd rfl rfl (fun hb12 => ?_) (fun hb12 => ?_)
  ·replace hM := ite_t hb12 hM
   refine run_skip ?_
   refine run_seq ?_
   refine run_block ?_
   refine run_sr ?_
   obtain ⟨y13, hy14, hM⟩ := bind_t hM
   obtain ⟨hc16, hi17⟩ := iidx (k := .i64) hy14
   refine run_pu rfl (indexImm_step hG rfl rfl rfl hi17 rfl rfl rfl rfl hc16) rfl (ltb rfl) ?_
   refine run_ld hG rfl rfl rfl rfl rfl (ltb rfl) ?_
   refine mvR rfl rfl rfl rfl (ltb rfl) ?_
   refine run_ops_nil ?_
   refine run_sr ?_
   refine mvL rfl rfl rfl rfl (ltb rfl) ?_
   obtain ⟨r18, hg19, hM⟩ := bind_t hM
   refine run_call rfl rfl rfl (ltb rfl) rfl rfl rfl (fun _ h => absurd h List.not_mem_nil) (i_in_ok y13 0 100 hg19 _ _) (callK_retX (fun v tk20 (hle21 : tki_treeFault_L1 ≤ tk20) h22 => ?_))
   subst h22
   refine run_pu rfl (aun_step rfl rfl rfl) rfl (ltb rfl) ?_
   refine run_ops_nil ?_
   refine run_ifb rfl rfl (fun hb25 => ?_) (fun hb25 => ?_)
   ·replace hM := ite_t hb25 hM
    refine run_sr ?_
    refine mvR rfl rfl rfl rfl (ltb rfl) ?_
    refine run_ops_nil ?_
    refine run_ret_to ?_
    obtain rfl := some_t hM
    refine fin_x hG rfl rfl rfl (v' := .int .i64 16) (by rfl) ⟨rfl, (show tk ≤ tk20 by omega), _, rfl, rfl⟩
   ·replace hM := ite_f hb25 hM
    refine run_skip ?_
    refine run_blk ?_
    refine run_region ?_
    refine run_bin rfl rfl rfl rfl rfl rfl rfl (ltb rfl) ?_
    refine mvL rfl rfl rfl rfl (ltb rfl) ?_
    refine run_ops_nil ?_
    exact run_loop_end ⟨m, _, Nat.lt_succ_self _, ⟨(IntKind.i64.wrap (i11 + 1)), tk20, (show tk5 ≤ tk20 by omega), hM, rfl⟩, Sub.env [(4, .int .i64 0), (10, .imm q2 1 f2 ((l2 : List Int).map fun n => [AV.int .i64 n])), (11, .int .i64 ((l2).length : Int)), (12, .int .i64 (IntKind.i64.wrap (i11 + 1)))] ⟨rfl, rfl, rfl, rfl, trivial⟩⟩
  ·replace hM := ite_f hb12 hM
   refine run_exit_to rfl ?_
   refine run_sr ?_
   refine mvR rfl rfl rfl rfl (ltb rfl) ?_
   refine run_ops_nil ?_
   refine run_ret_to ?_
   obtain rfl := some_t hM
   refine fin_x hG rfl rfl rfl (v' := .int .i64 0) (by rfl) ⟨rfl, (show tk ≤ tki_treeFault_L1 by omega), _, rfl, rfl⟩

def i_occurs_c1__c (x1 : T) (i2 : Int) (i3 : Int) : Option Bool :=
 if x1.kind = 5 then
  some (x1.n == (IntKind.i64.wrap (i3 + i2)))
 else
  some false

set_option maxRecDepth 100000 in
theorem i_occurs_c1__c_ok : ∀ (k1 : Int) (n1 : Int) (s1 : ByteArray) (q1 : Nat) (f1 : Bool) (ks1 : List LT) (i2 : Int) (X0 : ID) (i3 : Int) {r : Bool}, i_occurs_c1__c (T.mk k1 n1 s1 (ers ks1)) i2 i3 = some r → ∀ (O : Heap) (tk : Nat), O X0 = some ⟨3, 1, true, [[.int .i64 i3]]⟩ → ACalls Go.Proofs.Tryd.prog 94 [.cptr [.int .i64 k1, .int .i64 n1, .str s1, .imm q1 4 f1 (cellss ks1)], .int .i64 i2, .optr X0 0 0] O tk (RetX O tk (fun v tk' => v = .bool r)) := by
 intro k1 n1 s1 q1 f1 ks1 i2 X0 i3 r hM O tk hX0
 unfold i_occurs_c1__c at hM
 refine acalls_of_run Go.Proofs.Tryd.func94 rfl rfl [X0] [⟨3, 1, true, [[.int .i64 i3]]⟩] (Bor.one hX0 rfl) [(0, .cptr [.int .i64 k1, .int .i64 n1, .str s1, .imm q1 4 f1 (cellss ks1)]), (1, .int .i64 i2), (2, .optr (.bor 0) 0 0)] (.cons (.cptr _) (.cons (entS rfl) (.cons (.bor 0 _ _ _ rfl) (.nil _)))) (leb rfl) (by intro y h; simp only [List.mem_cons, List.not_mem_nil, or_false] at h; rcases h with rfl <;> simp [tch, tch0]) (fun S0 hO htk hfz => ?_)
 refine run_sr ?_
 refine mvR rfl rfl rfl rfl (ltb rfl) ?_
 refine run_ops_nil ?_
 refine run_seq ?_
 refine run_draw [] (n := 16) mixed rfl (fun _ h => absurd h List.not_mem_nil) ?_
 refine AAny.take (i := 0) rfl (by kernel_rfl) (by kernel_rfl) (by kernel_rfl) rfl rfl (ltb rfl) ((move_step (.inl rfl) rfl).rd _) ?_
 refine AAny.take (i := 1) rfl (by kernel_rfl) (by kernel_rfl) (by kernel_rfl) rfl rfl (ltb rfl) ((nilCheck_step rfl rfl ⟨_, rfl⟩).rd _) ?_
 refine AAny.take (i := 2) rfl (by kernel_rfl) (by kernel_rfl) (by kernel_rfl) rfl rfl (ltb rfl) ((fieldAddr_step hG rfl rfl rfl rfl rfl).rd _) ?_
 refine AAny.take (i := 3) rfl (by kernel_rfl) (by kernel_rfl) (by kernel_rfl) rfl rfl (ltb rfl) (aload_rd hG rfl rfl rfl (by first | (simp [ldok]; done) | exact List.not_mem_nil | trivial)) ?_
 refine AAny.take (i := 4) rfl (by kernel_rfl) (by kernel_rfl) (by kernel_rfl) rfl rfl (ltb rfl) ((abin_step rfl rfl rfl rfl (fun _ h => by cases h)).rd _) ?_
 refine AAny.take (i := 5) rfl (by kernel_rfl) (by kernel_rfl) (by kernel_rfl) rfl rfl (ltb rfl) ((move_step (.inl rfl) rfl).rd _) ?_
 refine AAny.splitd (i := 11) rfl (fun _ h => absurd h List.not_mem_nil) (fun hb4 => ?_) (fun hb4 => ?_)
 ·replace hM := ite_t hb4 hM
  refine AAny.takeG (i := 6) rfl (by kernel_rfl) (by kernel_rfl) (by kernel_rfl) (on_of rfl rfl rfl rfl) rfl (ltb rfl) ((move_step (.inl rfl) rfl).rd _) ?_
  refine AAny.takeG (i := 7) rfl (by kernel_rfl) (by kernel_rfl) (by kernel_rfl) (on_of rfl rfl rfl rfl) rfl (ltb rfl) ((nilCheck_step rfl rfl ⟨_, rfl⟩).rd _) ?_
  refine AAny.takeG (i := 8) rfl (by kernel_rfl) (by kernel_rfl) (by kernel_rfl) (on_of rfl rfl rfl rfl) rfl (ltb rfl) ((fieldAddr_step hG rfl rfl rfl rfl rfl).rd _) ?_
  refine AAny.takeG (i := 9) rfl (by kernel_rfl) (by kernel_rfl) (by kernel_rfl) (on_of rfl rfl rfl rfl) rfl (ltb rfl) (aload_rd hG rfl rfl rfl (by first | (simp [ldok]; done) | exact List.not_mem_nil | trivial)) ?_
  refine AAny.takeG (i := 10) rfl (by kernel_rfl) (by kernel_rfl) (by kernel_rfl) (on_of rfl rfl rfl rfl) rfl (ltb rfl) (aload_rd hG rfl rfl rfl (by first | (simp [ldok]; done) | exact List.not_mem_nil | trivial)) ?_
  refine AAny.takeG (i := 11) rfl (by kernel_rfl) (by kernel_rfl) (by kernel_rfl) (on_of rfl rfl rfl rfl) rfl (ltb rfl) ((move_step (.inl rfl) rfl).rd _) ?_
  refine AAny.takeG (i := 12) rfl (by kernel_rfl) (by kernel_rfl) (by kernel_rfl) (on_of rfl rfl rfl rfl) rfl (ltb rfl) ((abin_step rfl rfl rfl rfl (fun _ h => by cases h)).rd _) ?_
  refine AAny.takeG (i := 13) rfl (by kernel_rfl) (by kernel_rfl) (by kernel_rfl) (on_of rfl rfl rfl rfl) rfl (ltb rfl) ((abin_step rfl rfl rfl rfl (fun _ h => by cases h)).rd _) ?_
  refine AAny.take (i := 14) rfl (by kernel_rfl) (by kernel_rfl) (by kernel_rfl) rfl rfl (ltb rfl) ((pick_step rfl rfl rfl).rd _) ?_
  refine AAny.take (i := 15) rfl (by kernel_rfl) (by kernel_rfl) (by kernel_rfl) rfl rfl (ltb rfl) ((move_step (.inr rfl) rfl).rd _) ?_
  refine AAny.done (by kernel_rfl) ?_
  refine run_ret_to ?_
  obtain rfl := some_t hM
  refine fin_x hG rfl rfl rfl (v' := .bool (n1 == (IntKind.i64.wrap (i3 + i2)))) (by rfl) ⟨out_same (Bor.one hX0 rfl), (show tk ≤ tk by omega), _, rfl, rfl⟩
 ·replace hM := ite_f hb4 hM
  refine AAny.off (i := 6) rfl (by kernel_rfl) (by kernel_rfl) (by kernel_rfl) (on_of rfl rfl rfl rfl) rfl (ltb rfl) ?_
  refine AAny.off (i := 7) rfl (by kernel_rfl) (by kernel_rfl) (by kernel_rfl) (on_of rfl rfl rfl rfl) rfl (ltb rfl) ?_
  refine AAny.off (i := 8) rfl (by kernel_rfl) (by kernel_rfl) (by kernel_rfl) (on_of rfl rfl rfl rfl) rfl (ltb rfl) ?_
  refine AAny.off (i := 9) rfl (by kernel_rfl) (by kernel_rfl) (by kernel_rfl) (on_of rfl rfl rfl rfl) rfl (ltb rfl) ?_
  refine AAny.off (i := 10) rfl (by kernel_rfl) (by kernel_rfl) (by kernel_rfl) (on_of rfl rfl rfl rfl) rfl (ltb rfl) ?_
  refine AAny.off (i := 11) rfl (by kernel_rfl) (by kernel_rfl) (by kernel_rfl) (on_of rfl rfl rfl rfl) rfl (ltb rfl) ?_
  refine AAny.off (i := 12) rfl (by kernel_rfl) (by kernel_rfl) (by kernel_rfl) (on_of rfl rfl rfl rfl) rfl (ltb rfl) ?_
  refine AAny.off (i := 13) rfl (by kernel_rfl) (by kernel_rfl) (by kernel_rfl) (on_of rfl rfl rfl rfl) rfl (ltb rfl) ?_
  refine AAny.take (i := 14) rfl (by kernel_rfl) (by kernel_rfl) (by kernel_rfl) rfl rfl (ltb rfl) ((pick_step rfl rfl rfl).rd _) ?_
  refine AAny.take (i := 15) rfl (by kernel_rfl) (by kernel_rfl) (by kernel_rfl) rfl rfl (ltb rfl) ((move_step (.inr rfl) rfl).rd _) ?_
  refine AAny.done (by kernel_rfl) ?_
  refine run_ret_to ?_
  obtain rfl := some_t hM
  refine fin_x hG rfl rfl rfl (v' := .bool false) (by rfl) ⟨out_same (Bor.one hX0 rfl), (show tk ≤ tk by omega), _, rfl, rfl⟩

def i_Tree_binds__c (x1 : T) (i2 : Int) : Option Bool :=
 if x1.kind = 4 then
  some true
 else
  if x1.kind = 2 then
   some (i2 == 1)
  else
   some false

set_option maxRecDepth 100000 in
theorem i_Tree_binds__c_ok : ∀ (k1 : Int) (n1 : Int) (s1 : ByteArray) (q1 : Nat) (f1 : Bool) (ks1 : List LT) (i2 : Int) {r : Bool}, i_Tree_binds__c (T.mk k1 n1 s1 (ers ks1)) i2 = some r → ∀ (O : Heap) (tk : Nat), ACalls Go.Proofs.Tryd.prog 149 [.cptr [.int .i64 k1, .int .i64 n1, .str s1, .imm q1 4 f1 (cellss ks1)], .int .i64 i2] O tk (RetX O tk (fun v tk' => v = .bool r)) := by
 intro k1 n1 s1 q1 f1 ks1 i2 r hM O tk
 unfold i_Tree_binds__c at hM
 refine acalls_of_run Go.Proofs.Tryd.func149 rfl rfl [] [] (Bor.nil _) [(0, .cptr [.int .i64 k1, .int .i64 n1, .str s1, .imm q1 4 f1 (cellss ks1)]), (1, .int .i64 i2)] (.cons (.cptr _) (.cons (entS rfl) (.nil _))) (leb rfl) (fun _ h => by cases h) (fun S0 hO htk hfz => ?_)
 refine run_sr ?_
 refine mvR rfl rfl rfl rfl (ltb rfl) ?_
 refine run_ops_nil ?_
 refine run_sr ?_
 refine mvL rfl rfl rfl rfl (ltb rfl) ?_
 refine run_pu rfl (nilCheck_step rfl rfl ⟨_, rfl⟩) rfl (ltb rfl) ?_
 refine run_pu rfl (fieldAddr_step hG rfl rfl rfl rfl rfl) rfl (ltb rfl) ?_
 refine run_ld hG rfl rfl rfl rfl rfl (ltb rfl) ?_
 refine run_bin rfl rfl rfl rfl rfl rfl rfl (ltb rfl) ?_
 refine mvL rfl rfl rfl rfl (ltb rfl) ?_
 refine run_splitd (i := 10) rfl (fun hb3 => ?_) (fun hb3 => ?_)
 ·replace hM := ite_t hb3 hM
  refine run_off (on_of rfl rfl rfl rfl) rfl (ltb rfl) ?_
  refine run_off (on_of rfl rfl rfl rfl) rfl (ltb rfl) ?_
  refine run_off (on_of rfl rfl rfl rfl) rfl (ltb rfl) ?_
  refine run_off (on_of rfl rfl rfl rfl) rfl (ltb rfl) ?_
  refine run_off (on_of rfl rfl rfl rfl) rfl (ltb rfl) ?_
  refine run_off (on_of rfl rfl rfl rfl) rfl (ltb rfl) ?_
  refine run_off (off_un rfl rfl rfl) rfl (ltb rfl) ?_
  refine run_off (off_un rfl rfl rfl) rfl (ltb rfl) ?_
  refine run_off (on_of rfl rfl rfl rfl) rfl (ltb rfl) ?_
  refine run_pu rfl (pick_step rfl rfl rfl) rfl (ltb rfl) ?_
  refine mvR rfl rfl rfl rfl (ltb rfl) ?_
  refine run_ops_nil ?_
  refine run_ret_to ?_
  obtain rfl := some_t hM
  refine fin_x hG rfl rfl rfl (v' := .bool true) (by rfl) ⟨rfl, (show tk ≤ tk by omega), _, rfl, rfl⟩
 ·replace hM := ite_f hb3 hM
  refine run_puG (on_of rfl rfl rfl rfl) (move_step (.inl rfl) rfl) rfl (ltb rfl) ?_
  refine run_puG (on_of rfl rfl rfl rfl) (nilCheck_step rfl rfl ⟨_, rfl⟩) rfl (ltb rfl) ?_
  refine run_puG (on_of rfl rfl rfl rfl) (fieldAddr_step hG rfl rfl rfl rfl rfl) rfl (ltb rfl) ?_
  refine run_rdG (on_of rfl rfl rfl rfl) (aload_rd hG rfl rfl rfl (by first | (simp [ldok]; done) | exact List.not_mem_nil | trivial)) rfl (ltb rfl) ?_
  refine run_puG (on_of rfl rfl rfl rfl) (abin_step rfl rfl rfl rfl (fun _ h => by cases h)) rfl (ltb rfl) ?_
  refine run_puG (on_of rfl rfl rfl rfl) (move_step (.inl rfl) rfl) rfl (ltb rfl) ?_
  refine run_splitd (i := 16) rfl (fun hb4 => ?_) (fun hb4 => ?_)
  ·replace hM := ite_t hb4 hM
   refine run_puG (on_of rfl rfl rfl rfl) (move_step (.inl rfl) rfl) rfl (ltb rfl) ?_
   refine run_puG (on_of rfl rfl rfl rfl) (abin_step rfl rfl rfl rfl (fun _ h => by cases h)) rfl (ltb rfl) ?_
   refine run_puG (on_of rfl rfl rfl rfl) (pick_step rfl rfl rfl) rfl (ltb rfl) ?_
   refine run_pu rfl (pick_step rfl rfl rfl) rfl (ltb rfl) ?_
   refine mvR rfl rfl rfl rfl (ltb rfl) ?_
   refine run_ops_nil ?_
   refine run_ret_to ?_
   obtain rfl := some_t hM
   refine fin_x hG rfl rfl rfl (v' := .bool (i2 == 1)) (by rfl) ⟨rfl, (show tk ≤ tk by omega), _, rfl, rfl⟩
  ·replace hM := ite_f hb4 hM
   refine run_off (on_of rfl rfl rfl rfl) rfl (ltb rfl) ?_
   refine run_off (on_of rfl rfl rfl rfl) rfl (ltb rfl) ?_
   refine run_puG (on_of rfl rfl rfl rfl) (pick_step rfl rfl rfl) rfl (ltb rfl) ?_
   refine run_pu rfl (pick_step rfl rfl rfl) rfl (ltb rfl) ?_
   refine mvR rfl rfl rfl rfl (ltb rfl) ?_
   refine run_ops_nil ?_
   refine run_ret_to ?_
   obtain rfl := some_t hM
   refine fin_x hG rfl rfl rfl (v' := .bool false) (by rfl) ⟨rfl, (show tk ≤ tk by omega), _, rfl, rfl⟩

def i_Tree_under__c (x1 : T) (i2 : Int) : Option Int :=
 (i_Tree_binds__c x1 i2).bind fun r3 =>
 if r3 = true then
  some 1
 else
  some 0

set_option maxRecDepth 100000 in
theorem i_Tree_under__c_ok : ∀ (k1 : Int) (n1 : Int) (s1 : ByteArray) (q1 : Nat) (f1 : Bool) (ks1 : List LT) (i2 : Int) {r : Int}, i_Tree_under__c (T.mk k1 n1 s1 (ers ks1)) i2 = some r → ∀ (O : Heap) (tk : Nat), ACalls Go.Proofs.Tryd.prog 124 [.cptr [.int .i64 k1, .int .i64 n1, .str s1, .imm q1 4 f1 (cellss ks1)], .int .i64 i2] O tk (RetX O tk (fun v tk' => v = .int .i64 r)) := by
 intro k1 n1 s1 q1 f1 ks1 i2 r hM O tk
 unfold i_Tree_under__c at hM
 refine acalls_of_run Go.Proofs.Tryd.func124 rfl rfl [] [] (Bor.nil _) [(0, .cptr [.int .i64 k1, .int .i64 n1, .str s1, .imm q1 4 f1 (cellss ks1)]), (1, .int .i64 i2)] (.cons (.cptr _) (.cons (entS rfl) (.nil _))) (leb rfl) (fun _ h => by cases h) (fun S0 hO htk hfz => ?_)
 refine run_sr ?_
 refine mvR rfl rfl rfl rfl (ltb rfl) ?_
 refine run_ops_nil ?_
 refine run_seq ?_
 refine run_sr ?_
 refine mvL rfl rfl rfl rfl (ltb rfl) ?_
 refine mvL rfl rfl rfl rfl (ltb rfl) ?_
 obtain ⟨r3, hg4, hM⟩ := bind_t hM
 refine run_call rfl rfl rfl (ltb rfl) rfl rfl rfl (fun _ h => absurd h List.not_mem_nil) (i_Tree_binds__c_ok k1 n1 s1 q1 f1 ks1 i2 hg4 _ _) (callK_retX (fun v tk5 (hle6 : tk ≤ tk5) h7 => ?_))
 subst h7
 refine run_ops_nil ?_
 refine run_ifb rfl rfl (fun hb10 => ?_) (fun hb10 => ?_)
 ·replace hM := ite_t hb10 hM
  refine run_sr ?_
  refine mvR rfl rfl rfl rfl (ltb rfl) ?_
  refine run_ops_nil ?_
  refine run_ret_to ?_
  obtain rfl := some_t hM
  refine fin_x hG rfl rfl rfl (v' := .int .i64 1) (by rfl) ⟨rfl, (show tk ≤ tk5 by omega), _, rfl, rfl⟩
 ·replace hM := ite_f hb10 hM
  refine run_skip ?_
  refine run_sr ?_
  refine mvR rfl rfl rfl rfl (ltb rfl) ?_
  refine run_ops_nil ?_
  refine run_ret_to ?_
  obtain rfl := some_t hM
  refine fin_x hG rfl rfl rfl (v' := .int .i64 0) (by rfl) ⟨rfl, (show tk ≤ tk5 by omega), _, rfl, rfl⟩

def i_Tree_each__c_fn_i_occurs_c1v_L1 (rec_i_Tree_each__c_fn_i_occurs_c1v : T → Int → Int → Option Bool) (x1 : T) (i2 : Int) (i3 : Int) : Nat → Int → Option Bool
 | 0, _ => none
 | m + 1, i12 =>
  if i12 < ((x1.kids).length : Int) then
   (idx x1.kids i12).bind fun y14 =>
   (i_Tree_under__c x1 i12).bind fun r19 =>
   (rec_i_Tree_each__c_fn_i_occurs_c1v y14 (IntKind.i64.wrap (i2 + r19)) i3).bind fun r26 =>
   if r26 = true then
    some true
   else
    i_Tree_each__c_fn_i_occurs_c1v_L1 rec_i_Tree_each__c_fn_i_occurs_c1v x1 i2 i3 m (IntKind.i64.wrap (i12 + 1))
  else
   some false

def i_Tree_each__c_fn_i_occurs_c1v : Nat → T → Int → Int → Option Bool
 | 0, _, _, _ => none
 | n + 1, x1, i2, i3 =>
  (i_occurs_c1__c x1 i2 i3).bind fun r4 =>
  if r4 = true then
   some true
  else
   i_Tree_each__c_fn_i_occurs_c1v_L1 (i_Tree_each__c_fn_i_occurs_c1v n) x1 i2 i3 n 0

set_option maxRecDepth 100000 in
theorem i_Tree_each__c_fn_i_occurs_c1v_st (n : Nat) (ih_i_Tree_each__c_fn_i_occurs_c1v : ∀ (k1 : Int) (n1 : Int) (s1 : ByteArray) (q1 : Nat) (f1 : Bool) (ks1 : List LT) (i2 : Int) (X0 : ID) (i3 : Int) {r : Bool}, i_Tree_each__c_fn_i_occurs_c1v n (T.mk k1 n1 s1 (ers ks1)) i2 i3 = some r → ∀ (O : Heap) (tk : Nat), O X0 = some ⟨3, 1, true, [[.int .i64 i3]]⟩ → ACalls Go.Proofs.Tryd.prog 92 [.cptr [.int .i64 k1, .int .i64 n1, .str s1, .imm q1 4 f1 (cellss ks1)], .int .i64 i2, .fn (.func 94) [] [.optr X0 0 0]] O tk (RetX O tk (fun v tk' => v = .bool r))) : ∀ (k1 : Int) (n1 : Int) (s1 : ByteArray) (q1 : Nat) (f1 : Bool) (ks1 : List LT) (i2 : Int) (X0 : ID) (i3 : Int) {r : Bool}, i_Tree_each__c_fn_i_occurs_c1v (n + 1) (T.mk k1 n1 s1 (ers ks1)) i2 i3 = some r → ∀ (O : Heap) (tk : Nat), O X0 = some ⟨3, 1, true, [[.int .i64 i3]]⟩ → ACalls Go.Proofs.Tryd.prog 92 [.cptr [.int .i64 k1, .int .i64 n1, .str s1, .imm q1 4 f1 (cellss ks1)], .int .i64 i2, .fn (.func 94) [] [.optr X0 0 0]] O tk (RetX O tk (fun v tk' => v = .bool r)) := by
 intro k1 n1 s1 q1 f1 ks1 i2 X0 i3 r hM O tk hX0
 rw [i_Tree_each__c_fn_i_occurs_c1v] at hM
 refine acalls_of_run Go.Proofs.Tryd.func92 rfl rfl [X0] [⟨3, 1, true, [[.int .i64 i3]]⟩] (Bor.one hX0 rfl) [(0, .cptr [.int .i64 k1, .int .i64 n1, .str s1, .imm q1 4 f1 (cellss ks1)]), (1, .int .i64 i2), (2, .fn (.func 94) [] [.optr (.bor 0) 0 0])] (.cons (.cptr _) (.cons (entS rfl) (.cons (ent_fn (.bor 0 _ _ _ rfl)) (.nil _)))) (leb rfl) (by intro y h; simp only [List.mem_cons, List.not_mem_nil, or_false] at h; rcases h with rfl <;> simp [tch, tch0]) (fun S0 hO htk hfz => ?_)
 refine run_sr ?_
 refine mvR rfl rfl rfl rfl (ltb rfl) ?_
 refine run_ops_nil ?_
 refine run_seq ?_
 refine run_sr ?_
 refine mvL rfl rfl rfl rfl (ltb rfl) ?_
 refine mvL rfl rfl rfl rfl (ltb rfl) ?_
 refine mvL rfl rfl rfl rfl (ltb rfl) ?_
 obtain ⟨r4, hg5, hM⟩ := bind_t hM
 refine run_call rfl rfl rfl (ltb rfl) rfl rfl rfl (fun _ h => absurd h List.not_mem_nil) (i_occurs_c1__c_ok k1 n1 s1 q1 f1 ks1 i2 (.bor 0) i3 hg5 _ _ rfl) (callK_retX (fun v tk6 (hle7 : tk ≤ tk6) h8 => ?_))
 subst h8
 refine run_ops_nil ?_
 refine run_ifb rfl rfl (fun hb11 => ?_) (fun hb11 => ?_)
 ·replace hM := ite_t hb11 hM
  refine run_sr ?_
  refine mvR rfl rfl rfl rfl (ltb rfl) ?_
  refine run_ops_nil ?_
  refine run_ret_to ?_
  obtain rfl := some_t hM
  refine fin_x hG rfl rfl rfl (v' := .bool true) (by rfl) ⟨out_same (Bor.one hX0 rfl), (show tk ≤ tk6 by omega), _, rfl, rfl⟩
 ·replace hM := ite_f hb11 hM
  refine run_skip ?_
  refine run_seq ?_
  refine run_sr ?_
  refine mvL rfl rfl rfl rfl (ltb rfl) ?_
  refine run_pu rfl (nilCheck_step rfl rfl ⟨_, rfl⟩) rfl (ltb rfl) ?_
  refine run_pu rfl (fieldAddr_step hG rfl rfl rfl rfl rfl) rfl (ltb rfl) ?_
  refine run_ld hG rfl rfl rfl rfl rfl (ltb rfl) ?_
  refine run_pu rfl (lenImm_step hG rfl rfl rfl rfl (tlen _)) rfl (ltb rfl) ?_
  refine mvL rfl rfl rfl rfl (ltb rfl) ?_
  refine run_ops_nil ?_
  refine run_block ?_
  refine run_rounds (fun m σ => ∃ (i12 : Int) (tki_Tree_each__c_fn_i_occurs_c1v_L1 : Nat), tk6 ≤ tki_Tree_each__c_fn_i_occurs_c1v_L1 ∧ i_Tree_each__c_fn_i_occurs_c1v_L1 (i_Tree_each__c_fn_i_occurs_c1v n) (T.mk k1 n1 s1 (ers ks1)) i2 i3 m i12 = some r ∧ σ = ⟨[(0, .cptr [.int .i64 k1, .int .i64 n1, .str s1, .imm q1 4 f1 (cellss ks1)]), (1, .int .i64 i2), (2, .fn (.func 94) [] [.optr (.bor 0) 0 0]), (6, .bool false), (16, .int .i64 (((ers ks1)).length : Int)), (17, .int .i64 i12)], [], [⟨3, 1, true, [[.int .i64 i3]]⟩], O, tki_Tree_each__c_fn_i_occurs_c1v_L1⟩) n (Sub.env [(0, .cptr [.int .i64 k1, .int .i64 n1, .str s1, .imm q1 4 f1 (cellss ks1)]), (1, .int .i64 i2), (2, .fn (.func 94) [] [.optr (.bor 0) 0 0]), (6, .bool false), (16, .int .i64 (((ers ks1)).length : Int)), (17, .int .i64 0)] ⟨rfl, rfl, rfl, rfl, rfl, rfl, trivial⟩) ⟨0, tk6, Nat.le_refl _, hM, rfl⟩ (fun m σ hI => ?_)
  clear hM
  obtain ⟨i12, tki_Tree_each__c_fn_i_occurs_c1v_L1, hle34, hM, rfl⟩ := hI
  obtain _ | m := m
  ·exact absurd hM (by rw [i_Tree_each__c_fn_i_occurs_c1v_L1]; exact fun h => by cases h)
  rw [i_Tree_each__c_fn_i_occurs_c1v_L1] at hM
  refine run_sr ?_
  refine run_bin rfl rfl rfl rfl rfl rfl rfl (ltb rfl) ?_
  refine run_ops_nil ?_
  refine run_seq ?_
  refine run_ifd rfl rfl (fun hb13 => ?_) (fun hb13 => ?_)
  ·replace hM := ite_t hb13 hM
   refine run_skip ?_
   refine run_seq ?_
   refine run_block ?_
   refine run_sr ?_
   refine mvL rfl rfl rfl rfl (ltb rfl) ?_
   refine mvR rfl rfl rfl rfl (ltb rfl) ?_
   refine run_ops_nil ?_
   refine run_seq ?_
   refine run_draw [.bor 0] (n := 13) mixed rfl (by intro x hx; simp only [List.mem_cons, List.not_mem_nil, or_false] at hx; rcases hx with rfl <;> rfl) ?_
   refine AAny.take (i := 0) rfl (by kernel_rfl) (by kernel_rfl) (by kernel_rfl) rfl rfl (ltb rfl) ((move_step (.inl rfl) rfl).rd _) ?_
   refine AAny.take (i := 1) rfl (by kernel_rfl) (by kernel_rfl) (by kernel_rfl) rfl rfl (ltb rfl) ((nilCheck_step rfl rfl ⟨_, rfl⟩).rd _) ?_
   refine AAny.take (i := 2) rfl (by kernel_rfl) (by kernel_rfl) (by kernel_rfl) rfl rfl (ltb rfl) ((fieldAddr_step hG rfl rfl rfl rfl rfl).rd _) ?_
   refine AAny.take (i := 3) rfl (by kernel_rfl) (by kernel_rfl) (by kernel_rfl) rfl rfl (ltb rfl) (aload_rd hG rfl rfl rfl (by first | (simp [ldok]; done) | exact List.not_mem_nil | trivial)) ?_
   refine AAny.take (i := 4) rfl (by kernel_rfl) (by kernel_rfl) (by kernel_rfl) rfl rfl (ltb rfl) ((move_step (.inl rfl) rfl).rd _) ?_
   obtain ⟨y14, hy15, hM⟩ := bind_t hM
   obtain ⟨k16, n16, s16, q16, f16, ks16, rfl, hc17, hi18⟩ := tidx (ks := ks1) hy15
   refine AAny.take (i := 5) rfl (by kernel_rfl) (by kernel_rfl) (by kernel_rfl) rfl rfl (ltb rfl) ((indexImm_step hG rfl rfl rfl hi18 rfl rfl rfl rfl hc17).rd _) ?_
   refine AAny.take (i := 6) rfl (by kernel_rfl) (by kernel_rfl) (by kernel_rfl) rfl rfl (ltb rfl) ((move_step (.inl rfl) rfl).rd _) ?_
   refine AAny.take (i := 7) rfl (by kernel_rfl) (by kernel_rfl) (by kernel_rfl) rfl rfl (ltb rfl) ((move_step (.inl rfl) rfl).rd _) ?_
   refine AAny.take (i := 8) rfl (by kernel_rfl) (by kernel_rfl) (by kernel_rfl) rfl rfl (ltb rfl) ((move_step (.inl rfl) rfl).rd _) ?_
   refine AAny.take (i := 11) rfl (by kernel_rfl) (by kernel_rfl) (by kernel_rfl) rfl rfl (ltb rfl) ((move_step (.inl rfl) rfl).rd _) ?_
   obtain ⟨r19, hg20, hM⟩ := bind_t hM
   refine AAny.one (i := 9) (by kernel_rfl) (AOp.call rfl rfl rfl rfl (ltb rfl) rfl rfl rfl (fun _ h => absurd h List.not_mem_nil) (fun _ h => absurd h List.not_mem_nil) (i_Tree_under__c_ok k1 n1 s1 q1 f1 ks1 i12 hg20 _ _) (callK_retX (fun v tk21 (hle22 : tki_Tree_each__c_fn_i_occurs_c1v_L1 ≤ tk21) h23 => ?_)))
   subst h23
   refine AAny.take (i := 10) rfl (by kernel_rfl) (by kernel_rfl) (by kernel_rfl) rfl rfl (ltb rfl) ((abin_step rfl rfl rfl rfl (fun _ h => by cases h)).rd _) ?_
   obtain ⟨r26, hg27, hM⟩ := bind_t hM
   refine AAny.one (i := 12) (by kernel_rfl) (AOp.call rfl rfl rfl rfl (ltb rfl) rfl rfl rfl (fun _ h => absurd h List.not_mem_nil) (by intro x hx; simp only [tch, tch0, List.nil_append, List.append_nil, List.mem_cons, List.not_mem_nil, or_false] at hx; subst hx; simp) (ih_i_Tree_each__c_fn_i_occurs_c1v k16 n16 s16 q16 f16 ks16 (IntKind.i64.wrap (i2 + r19)) (.bor 0) i3 hg27 _ _ rfl) (callK_retX (fun v tk28 (hle29 : tk21 ≤ tk28) h30 => ?_)))
   subst h30
   refine AAny.done (by kernel_rfl) ?_
   refine run_sub_code (σ' := ⟨[(0, .cptr [.int .i64 k1, .int .i64 n1, .str s1, .imm q1 4 f1 (cellss ks1)]), (1, .int .i64 i2), (2, .fn (.func 94) [] [.optr (.bor 0) 0 0]), (6, .bool false), (16, .int .i64 (((ers ks1)).length : Int)), (17, .int .i64 i12), (32, .bool r26)], [], [⟨3, 1, true, [[.int .i64 i3]]⟩], O, tk28⟩) (Sub.env _ ⟨rfl, rfl, rfl, rfl, rfl, rfl, rfl, trivial⟩) ?_
   refine run_ifb rfl rfl (fun hb33 => ?_) (fun hb33 => ?_)
   ·replace hM := ite_t hb33 hM
    refine run_sr ?_
    refine mvR rfl rfl rfl rfl (ltb rfl) ?_
    refine run_ops_nil ?_
    refine run_ret_to ?_
    obtain rfl := some_t hM
    refine fin_x hG rfl rfl rfl (v' := .bool true) (by rfl) ⟨out_same (Bor.one hX0 rfl), (show tk ≤ tk28 by omega), _, rfl, rfl⟩
   ·replace hM := ite_f hb33 hM
    refine run_skip ?_
    refine run_blk ?_
    refine run_region ?_
    refine run_bin rfl rfl rfl rfl rfl rfl rfl (ltb rfl) ?_
    refine mvL rfl rfl rfl rfl (ltb rfl) ?_
    refine run_ops_nil ?_
    exact run_loop_end ⟨m, _, Nat.lt_succ_self _, ⟨(IntKind.i64.wrap (i12 + 1)), tk28, (show tk6 ≤ tk28 by omega), hM, rfl⟩, Sub.env [(0, .cptr [.int .i64 k1, .int .i64 n1, .str s1, .imm q1 4 f1 (cellss ks1)]), (1, .int .i64 i2), (2, .fn (.func 94) [] [.optr (.bor 0) 0 0]), (6, .bool false), (16, .int .i64 (((ers ks1)).length : Int)), (17, .int .i64 (IntKind.i64.wrap (i12 + 1)))] ⟨rfl, rfl, rfl, rfl, rfl, rfl, trivial⟩⟩
  ·replace hM := ite_f hb13 hM
   refine run_exit_to rfl ?_
   refine run_sr ?_
   refine mvR rfl rfl rfl rfl (ltb rfl) ?_
   refine run_ops_nil ?_
   refine run_ret_to ?_
   obtain rfl := some_t hM
   refine fin_x hG rfl rfl rfl (v' := .bool false) (by rfl) ⟨out_same (Bor.one hX0 rfl), (show tk ≤ tki_Tree_each__c_fn_i_occurs_c1v_L1 by omega), _, rfl, rfl⟩

theorem i_Tree_each__c_fn_i_occurs_c1v_all : ∀ (n : Nat), (∀ (k1 : Int) (n1 : Int) (s1 : ByteArray) (q1 : Nat) (f1 : Bool) (ks1 : List LT) (i2 : Int) (X0 : ID) (i3 : Int) {r : Bool}, i_Tree_each__c_fn_i_occurs_c1v n (T.mk k1 n1 s1 (ers ks1)) i2 i3 = some r → ∀ (O : Heap) (tk : Nat), O X0 = some ⟨3, 1, true, [[.int .i64 i3]]⟩ → ACalls Go.Proofs.Tryd.prog 92 [.cptr [.int .i64 k1, .int .i64 n1, .str s1, .imm q1 4 f1 (cellss ks1)], .int .i64 i2, .fn (.func 94) [] [.optr X0 0 0]] O tk (RetX O tk (fun v tk' => v = .bool r)))
 | 0 => by intro k1 n1 s1 q1 f1 ks1 i2 X0 i3 r hM; rw [i_Tree_each__c_fn_i_occurs_c1v] at hM; cases hM
 | n + 1 => have ih := i_Tree_each__c_fn_i_occurs_c1v_all n; i_Tree_each__c_fn_i_occurs_c1v_st n (ih)

theorem i_Tree_each__c_fn_i_occurs_c1v_ok (n : Nat) : ∀ (k1 : Int) (n1 : Int) (s1 : ByteArray) (q1 : Nat) (f1 : Bool) (ks1 : List LT) (i2 : Int) (X0 : ID) (i3 : Int) {r : Bool}, i_Tree_each__c_fn_i_occurs_c1v n (T.mk k1 n1 s1 (ers ks1)) i2 i3 = some r → ∀ (O : Heap) (tk : Nat), O X0 = some ⟨3, 1, true, [[.int .i64 i3]]⟩ → ACalls Go.Proofs.Tryd.prog 92 [.cptr [.int .i64 k1, .int .i64 n1, .str s1, .imm q1 4 f1 (cellss ks1)], .int .i64 i2, .fn (.func 94) [] [.optr X0 0 0]] O tk (RetX O tk (fun v tk' => v = .bool r)) := i_Tree_each__c_fn_i_occurs_c1v_all n

def i_occurs (n : Nat) (x1 : T) (i2 : Int) : Option Bool :=
 (i_Tree_each__c_fn_i_occurs_c1v n x1 0 i2).bind fun r3 =>
 some r3

set_option maxRecDepth 100000 in
theorem i_occurs_ok (n : Nat) : ∀ (k1 : Int) (n1 : Int) (s1 : ByteArray) (q1 : Nat) (f1 : Bool) (ks1 : List LT) (i2 : Int) {r : Bool}, i_occurs n (T.mk k1 n1 s1 (ers ks1)) i2 = some r → ∀ (O : Heap) (tk : Nat), ACalls Go.Proofs.Tryd.prog 38 [.agg [.int .i64 k1, .int .i64 n1, .str s1, .imm q1 4 f1 (cellss ks1)], .int .i64 i2] O tk (RetX O tk (fun v tk' => v = .bool r)) := by
 intro k1 n1 s1 q1 f1 ks1 i2 r hM O tk
 unfold i_occurs at hM
 refine acalls_of_run Go.Proofs.Tryd.func38 rfl rfl [] [] (Bor.nil _) [(0, .agg [.int .i64 k1, .int .i64 n1, .str s1, .imm q1 4 f1 (cellss ks1)]), (1, .int .i64 i2)] (.cons (.agg _) (.cons (entS rfl) (.nil _))) (leb rfl) (fun _ h => by cases h) (fun S0 hO htk hfz => ?_)
 refine run_sr ?_
 refine run_op rfl (box_step (d := 2) rfl rfl rfl rfl rfl) rfl (ltb rfl) ?_
 refine run_op rfl (box_step (d := 3) rfl rfl rfl rfl rfl) rfl (ltb rfl) ?_
 refine mvR rfl rfl rfl rfl (ltb rfl) ?_
 refine run_ops_nil ?_
 refine run_sr ?_
 refine run_pu rfl (makeFunc_step (first := []) (cap := [.tmp 3]) rfl rfl rfl) rfl (ltb rfl) ?_
 refine run_sub_ops (Sub.frbox (k := 2) (env' := [(0, .agg [.int .i64 k1, .int .i64 n1, .str s1, .imm q1 4 f1 (cellss ks1)]), (1, .int .i64 i2), (2, .cptr [.int .i64 k1, .int .i64 n1, .str s1, .imm q1 4 f1 (cellss ks1)]), (3, .optr (.loc 3) 0 0), (4, .bool false), (5, .fn (.func 94) [] [.optr (.loc 3) 0 0])]) rfl rfl (.keep 0 _ _ rfl (.keep 1 _ _ rfl (.ptr 2 0 _ rfl (.keep 3 _ _ rfl (.keep 4 _ _ rfl (.keep 5 _ _ rfl .nil))))))) ?_
 obtain ⟨r3, hg4, hM⟩ := bind_t hM
 refine run_call rfl rfl rfl (ltb rfl) rfl rfl rfl (fun _ h => absurd h List.not_mem_nil) (i_Tree_each__c_fn_i_occurs_c1v_ok n k1 n1 s1 q1 f1 ks1 0 (.loc 3) i2 hg4 _ _ rfl) (callK_retX (fun v tk5 (hle6 : tk ≤ tk5) h7 => ?_))
 subst h7
 refine mvR rfl rfl rfl rfl (ltb rfl) ?_
 refine run_ops_nil ?_
 refine run_ret_to ?_
 obtain rfl := some_t hM
 refine fin_x hG rfl rfl rfl (v' := .bool r3) (by rfl) ⟨rfl, (show tk ≤ tk5 by omega), _, rfl, rfl⟩

def i_Occurs (n : Nat) (x1 : T) (i2 : Int) : Option (Bool × Int) :=
 (i_treeFault n x1 ([i2])).bind fun r3 =>
 if (r3 != 0) = true then
  some (false, r3)
 else
  (i_occurs n x1 i2).bind fun r11 =>
  some (r11, 0)

set_option maxRecDepth 100000 in
theorem i_Occurs_ok (n : Nat) : ∀ (k1 : Int) (n1 : Int) (s1 : ByteArray) (q1 : Nat) (f1 : Bool) (ks1 : List LT) (i2 : Int) {r : (Bool × Int)}, i_Occurs n (T.mk k1 n1 s1 (ers ks1)) i2 = some r → ∀ (O : Heap) (tk : Nat), ACalls Go.Proofs.Tryd.prog 11 [.agg [.int .i64 k1, .int .i64 n1, .str s1, .imm q1 4 f1 (cellss ks1)], .int .i64 i2] O tk (RetX O tk (fun v tk' => ∃ r0' r1' v0' v1', r = (r0', r1') ∧ v = .tup [v0', v1'] ∧ v0' = .bool r0' ∧ v1' = .int .i64 r1')) := by
 intro k1 n1 s1 q1 f1 ks1 i2 r hM O tk
 unfold i_Occurs at hM
 refine acalls_of_run Go.Proofs.Tryd.func11 rfl rfl [] [] (Bor.nil _) [(0, .agg [.int .i64 k1, .int .i64 n1, .str s1, .imm q1 4 f1 (cellss ks1)]), (1, .int .i64 i2)] (.cons (.agg _) (.cons (entS rfl) (.nil _))) (leb rfl) (fun _ h => by cases h) (fun S0 hO htk hfz => ?_)
 refine run_sr ?_
 refine run_op rfl (box_step (d := 2) rfl rfl rfl rfl rfl) rfl (ltb rfl) ?_
 refine mvR rfl rfl rfl rfl (ltb rfl) ?_
 refine mvR rfl rfl rfl rfl (ltb rfl) ?_
 refine run_ops_nil ?_
 refine run_seq ?_
 refine run_sr ?_
 refine run_ld hG rfl rfl rfl rfl rfl (ltb rfl) ?_
 refine mvL rfl rfl rfl rfl (ltb rfl) ?_
 refine run_op rfl (buildSlice_step (d := 9) hG rfl rfl rfl rfl rfl (by rfl) (by rfl) (by rfl) (by decide)) rfl (ltb rfl) ?_
 refine run_sub_ops (Sub.freeze (k := 9) rfl rfl) ?_
 obtain ⟨r3, hg4, hM⟩ := bind_t hM
 refine run_call rfl rfl rfl (ltb rfl) rfl rfl rfl (fun _ h => absurd h List.not_mem_nil) (i_treeFault_ok n k1 n1 s1 q1 f1 ks1 tk false [i2] hg4 _ _) (callK_retX (fun v tk5 (hle6 : (tk + 1) ≤ tk5) h7 => ?_))
 subst h7
 refine mvR rfl rfl rfl rfl (ltb rfl) ?_
 refine run_ops_nil ?_
 refine run_sr ?_
 refine mvL rfl rfl rfl rfl (ltb rfl) ?_
 refine run_bin rfl rfl rfl rfl rfl rfl rfl (ltb rfl) ?_
 refine run_ops_nil ?_
 refine run_ifb rfl rfl (fun hb10 => ?_) (fun hb10 => ?_)
 ·replace hM := ite_t hb10 hM
  refine run_sr ?_
  refine mvL rfl rfl rfl rfl (ltb rfl) ?_
  refine mvR rfl rfl rfl rfl (ltb rfl) ?_
  refine mvR rfl rfl rfl rfl (ltb rfl) ?_
  refine run_ops_nil ?_
  refine run_ret_to ?_
  obtain rfl := some_t hM
  refine fin_x hG rfl rfl rfl (v' := .tup [.bool false, .int .i64 r3]) (by rfl) ⟨rfl, (show tk ≤ tk5 by omega), _, rfl, ⟨_, _, _, _, rfl, rfl, rfl, rfl⟩⟩
 ·replace hM := ite_f hb10 hM
  refine run_skip ?_
  refine run_sr ?_
  refine run_ld hG rfl rfl rfl rfl rfl (ltb rfl) ?_
  refine mvL rfl rfl rfl rfl (ltb rfl) ?_
  obtain ⟨r11, hg12, hM⟩ := bind_t hM
  refine run_call rfl rfl rfl (ltb rfl) rfl rfl rfl (fun _ h => absurd h List.not_mem_nil) (i_occurs_ok n k1 n1 s1 q1 f1 ks1 i2 hg12 _ _) (callK_retX (fun v tk13 (hle14 : tk5 ≤ tk13) h15 => ?_))
  subst h15
  refine mvR rfl rfl rfl rfl (ltb rfl) ?_
  refine mvR rfl rfl rfl rfl (ltb rfl) ?_
  refine run_ops_nil ?_
  refine run_ret_to ?_
  obtain rfl := some_t hM
  refine fin_x hG rfl rfl rfl (v' := .tup [.bool r11, .int .i64 0]) (by rfl) ⟨rfl, (show tk ≤ tk13 by omega), _, rfl, ⟨_, _, _, _, rfl, rfl, rfl, rfl⟩⟩

end Go.Am.YtaedacibojpfkaaDoor
