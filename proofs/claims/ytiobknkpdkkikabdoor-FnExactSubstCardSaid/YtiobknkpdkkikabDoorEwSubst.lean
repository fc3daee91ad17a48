/- Printed by a program of ours: Lean functions that do what the Go functions do, and the contracts. -/
import Derived.Test.YtiobknkpdkkikabDoorMl0
import Derived.Test.YtiobknkpdkkikabDoorTypes
import Derived.Test.YtiobknkpdkkikabDoorMsTree
import Derived.Test.YtiobknkpdkkikabDoorEkSubst
import Derived.Test.YtiobknkpdkkikabDoorDlTree
import Derived.Test.YtiobknkpdkkikabDoorMhTree
-- packed
namespace Go.Am.YtiobknkpdkkikabDoor
open Go Go.Am

def w_FnExactSubst (n : Nat) (x1 : T) (x2 : T) (x3 : T) : Option Bool :=
 (w_szTree n x1 1048576).bind fun r4 =>
 if r4 < 0 then
  some true
 else
  (w_szTree n x2 r4).bind fun r12 =>
  if r12 < 0 then
   some true
  else
   (w_szTree n x3 r12).bind fun r20 =>
   if r20 < 0 then
    some true
   else
    jn (fun (i29 : Int) (i30 : Int) (i31 : Int) (t32 : ByteArray) (l33 : List T) =>
     (w_toTree n x1).bind fun r163 =>
     (w_toTree n x2).bind fun r170 =>
     (w_toTree n x3).bind fun r177 =>
     (i_Subst n r163 r170 r177).bind fun r184 =>
     (w_eqTree n r184.1 (T.mk i30 i31 t32 l33)).bind fun r197 =>
     if (!r197) = true then
      some false
     else
      if (r184.2 != i29) = true then
       some false
      else
       (w_toTree n x1).bind fun r206 =>
       (w_eqTree n r163 r206).bind fun r213 =>
       if (!r213) = true then
        some false
       else
        (w_toTree n x2).bind fun r221 =>
        (w_eqTree n r170 r221).bind fun r228 =>
        if (!r228) = true then
         some false
        else
         (w_toTree n x3).bind fun r236 =>
         (w_eqTree n r177 r236).bind fun r243 =>
         if (!r243) = true then
          some false
         else
          (w_markTree r163 1).bind fun r251 =>
          (w_markTree r170 r251.2).bind fun r260 =>
          (w_markTree r177 r260.2).bind fun r269 =>
          if r269.2 < 0 then
           some false
          else
           (w_eqTree n r184.1 (T.mk i30 i31 t32 l33)).bind fun r279 =>
           if (!r279) = true then
            some false
           else
            if (r184.2 != i29) = true then
             some false
            else
             (w_markTree r184.1 1).bind fun r288 =>
             (w_heldTree n (T.mk r184.1.kind r184.1.n r184.1.name r288.1) 1).bind fun r297 =>
             if r297 < 0 then
              some false
             else
              if (r297 != r288.2) = true then
               some false
              else
               jn (fun (i307 : Int) (i308 : Int) (i309 : Int) (t310 : ByteArray) (l311 : List T) =>
                (w_eqTree n (T.mk i308 i309 t310 l311) (T.mk i30 i31 t32 l33)).bind fun r441 =>
                if (!r441) = true then
                 some false
                else
                 if (i307 != i29) = true then
                  some false
                 else
                  (w_heldTree n (T.mk r184.1.kind r184.1.n r184.1.name r288.1) 1).bind fun r450 =>
                  if r450 < 0 then
                   some false
                  else
                   if (r450 != r288.2) = true then
                    some false
                   else
                    some true) fun j306 =>
               (w_toTree n x1).bind fun r313 =>
               (w_toTree n x2).bind fun r320 =>
               (w_toTree n x3).bind fun r327 =>
               (i_Subst n r313 r320 r327).bind fun r334 =>
               j306 r334.2 r334.1.kind r334.1.n r334.1.name r334.1.kids) fun j28 =>
    (w_toTree n x1).bind fun r35 =>
    (w_toTree n x2).bind fun r42 =>
    (w_toTree n x3).bind fun r49 =>
    (s_Subst n r35 r42 r49).bind fun r56 =>
    j28 r56.2 r56.1.kind r56.1.n r56.1.name r56.1.kids

set_option maxHeartbeats 2000000 in
set_option maxRecDepth 100000 in
theorem w_FnExactSubst_ok (n : Nat) : ∀ (k1 : Int) (n1 : Int) (s1 : ByteArray) (q1 : Nat) (f1 : Bool) (ks1 : List LT) (k2 : Int) (n2 : Int) (s2 : ByteArray) (q2 : Nat) (f2 : Bool) (ks2 : List LT) (k3 : Int) (n3 : Int) (s3 : ByteArray) (q3 : Nat) (f3 : Bool) (ks3 : List LT) {r : Bool}, w_FnExactSubst n (T.mk k1 n1 s1 (ers ks1)) (T.mk k2 n2 s2 (ers ks2)) (T.mk k3 n3 s3 (ers ks3)) = some r → (∀ x ∈ tstoks q1 ks1, x = 0) → (∀ x ∈ tstoks q2 ks2, x = 0) → (∀ x ∈ tstoks q3 ks3, x = 0) → ∀ (O : Heap) (tk : Nat), O = (fun _ => none) → 2 ≤ tk → ACalls Go.Proofs.Tryd.prog 4 [.agg [.int .i64 k1, .int .i64 n1, .str s1, .imm q1 4 f1 (cellss ks1)], .agg [.int .i64 k2, .int .i64 n2, .str s2, .imm q2 4 f2 (cellss ks2)], .agg [.int .i64 k3, .int .i64 n3, .str s3, .imm q3 4 f3 (cellss ks3)]] O tk (RetX O tk (fun v tk' => v = .bool r)) := by
 intro k1 n1 s1 q1 f1 ks1 k2 n2 s2 q2 f2 ks2 k3 n3 s3 q3 f3 ks3 r hM ho0 ho1 ho2 O tk hOn h2tk
 unfold w_FnExactSubst at hM
 refine acalls_of_run Go.Proofs.Tryd.func4 rfl rfl [] [] (Bor.nil _) [(0, .agg [.int .i64 k1, .int .i64 n1, .str s1, .imm q1 4 f1 (cellss ks1)]), (1, .agg [.int .i64 k2, .int .i64 n2, .str s2, .imm q2 4 f2 (cellss ks2)]), (2, .agg [.int .i64 k3, .int .i64 n3, .str s3, .imm q3 4 f3 (cellss ks3)])] (.cons (.agg _) (.cons (.agg _) (.cons (.agg _) (.nil _)))) (leb rfl) (fun _ h => by cases h) (fun S0 hO htk hfz => ?_)
 refine run_sr ?_
 refine run_op rfl (box_step (d := 3) rfl rfl rfl rfl rfl) rfl (ltb rfl) ?_
 refine run_op rfl (box_step (d := 4) rfl rfl rfl rfl rfl) rfl (ltb rfl) ?_
 refine run_op rfl (box_step (d := 5) rfl rfl rfl rfl rfl) rfl (ltb rfl) ?_
 refine mvR rfl rfl rfl rfl (ltb rfl) ?_
 refine run_ops_nil ?_
 refine run_sr ?_
 refine mvR rfl rfl rfl rfl (ltb rfl) ?_
 refine run_ops_nil ?_
 refine run_sr ?_
 refine run_ld hG rfl rfl rfl rfl rfl (ltb rfl) ?_
 refine mvL rfl rfl rfl rfl (ltb rfl) ?_
 obtain ⟨r4, hg5, hM⟩ := bind_t hM
 refine run_call rfl rfl rfl (ltb rfl) rfl rfl rfl (fun _ h => absurd h List.not_mem_nil) (w_szTree_ok n k1 n1 s1 q1 f1 ks1 1048576 hg5 _ _) (callK_retX (fun v tk6 (hle7 : tk ≤ tk6) h8 => ?_))
 subst h8
 refine mvR rfl rfl rfl rfl (ltb rfl) ?_
 refine run_ops_nil ?_
 refine run_seq ?_
 refine run_sr ?_
 refine mvL rfl rfl rfl rfl (ltb rfl) ?_
 refine run_bin rfl rfl rfl rfl rfl rfl rfl (ltb rfl) ?_
 refine run_ops_nil ?_
 refine run_ifd rfl rfl (fun hb11 => ?_) (fun hb11 => ?_)
 ·replace hM := ite_t hb11 hM
  refine run_sr ?_
  refine mvR rfl rfl rfl rfl (ltb rfl) ?_
  refine run_ops_nil ?_
  refine run_ret_to ?_
  obtain rfl := some_t hM
  refine fin_x hG rfl rfl rfl (v' := .bool true) (by rfl) ⟨rfl, (show tk ≤ tk6 by omega), _, rfl, rfl⟩
 ·replace hM := ite_f hb11 hM
  refine run_skip ?_
  refine run_sr ?_
  refine run_ld hG rfl rfl rfl rfl rfl (ltb rfl) ?_
  refine mvL rfl rfl rfl rfl (ltb rfl) ?_
  obtain ⟨r12, hg13, hM⟩ := bind_t hM
  refine run_call rfl rfl rfl (ltb rfl) rfl rfl rfl (fun _ h => absurd h List.not_mem_nil) (w_szTree_ok n k2 n2 s2 q2 f2 ks2 r4 hg13 _ _) (callK_retX (fun v tk14 (hle15 : tk6 ≤ tk14) h16 => ?_))
  subst h16
  refine mvR rfl rfl rfl rfl (ltb rfl) ?_
  refine run_ops_nil ?_
  refine run_sub_code (σ' := ⟨[(3, .optr (.loc 3) 0 0), (4, .optr (.loc 4) 0 0), (5, .optr (.loc 5) 0 0), (6, .bool false), (7, .int .i64 r12)], [(5, ⟨24, 4, true, [[.int .i64 k3, .int .i64 n3, .str s3, .imm q3 4 f3 (cellss ks3)]]⟩), (4, ⟨24, 4, true, [[.int .i64 k2, .int .i64 n2, .str s2, .imm q2 4 f2 (cellss ks2)]]⟩), (3, ⟨24, 4, true, [[.int .i64 k1, .int .i64 n1, .str s1, .imm q1 4 f1 (cellss ks1)]]⟩)], [], O, tk14⟩) (Sub.env _ ⟨rfl, rfl, rfl, rfl, rfl, trivial⟩) ?_
  refine run_seq ?_
  refine run_sr ?_
  refine mvL rfl rfl rfl rfl (ltb rfl) ?_
  refine run_bin rfl rfl rfl rfl rfl rfl rfl (ltb rfl) ?_
  refine run_ops_nil ?_
  refine run_ifd rfl rfl (fun hb19 => ?_) (fun hb19 => ?_)
  ·replace hM := ite_t hb19 hM
   refine run_sr ?_
   refine mvR rfl rfl rfl rfl (ltb rfl) ?_
   refine run_ops_nil ?_
   refine run_ret_to ?_
   obtain rfl := some_t hM
   refine fin_x hG rfl rfl rfl (v' := .bool true) (by rfl) ⟨rfl, (show tk ≤ tk14 by omega), _, rfl, rfl⟩
  ·replace hM := ite_f hb19 hM
   refine run_skip ?_
   refine run_sr ?_
   refine run_ld hG rfl rfl rfl rfl rfl (ltb rfl) ?_
   refine mvL rfl rfl rfl rfl (ltb rfl) ?_
   obtain ⟨r20, hg21, hM⟩ := bind_t hM
   refine run_call rfl rfl rfl (ltb rfl) rfl rfl rfl (fun _ h => absurd h List.not_mem_nil) (w_szTree_ok n k3 n3 s3 q3 f3 ks3 r12 hg21 _ _) (callK_retX (fun v tk22 (hle23 : tk14 ≤ tk22) h24 => ?_))
   subst h24
   refine mvR rfl rfl rfl rfl (ltb rfl) ?_
   refine run_ops_nil ?_
   refine run_seq ?_
   refine run_sr ?_
   refine mvL rfl rfl rfl rfl (ltb rfl) ?_
   refine run_bin rfl rfl rfl rfl rfl rfl rfl (ltb rfl) ?_
   refine run_ops_nil ?_
   refine run_ifd rfl rfl (fun hb27 => ?_) (fun hb27 => ?_)
   ·replace hM := ite_t hb27 hM
    refine run_sr ?_
    refine mvR rfl rfl rfl rfl (ltb rfl) ?_
    refine run_ops_nil ?_
    refine run_ret_to ?_
    obtain rfl := some_t hM
    refine fin_x hG rfl rfl rfl (v' := .bool true) (by rfl) ⟨rfl, (show tk ≤ tk22 by omega), _, rfl, rfl⟩
   ·replace hM := ite_f hb27 hM
    refine run_skip ?_
    refine run_seq ?_
    obtain ⟨j28, hj462, hM⟩ := jn_t hM
    refine run_cutL [.code _] (fun σ' => ∃ (i29 : Int) (i30 : Int) (i31 : Int) (t32 : ByteArray) (q33 : Nat) (f33 : Bool) (ks33 : List LT) (tkj28 : Nat), tk22 ≤ tkj28 ∧ Fr tk22 tkj28 (tstoks q33 ks33) ∧ j28 i29 i30 i31 t32 (ers ks33) = some r ∧ Sub ⟨Go.Proofs.Tryd.prog, S0, Go.Proofs.Tryd.f4.ntmps, [], fun _ => False, []⟩ σ' ⟨[(3, .optr (.loc 3) 0 0), (4, .optr (.loc 4) 0 0), (5, .optr (.loc 5) 0 0), (6, .bool false), (8, .optr (.loc 8) 0 0), (9, .int .i64 i29)], [(8, ⟨29, 4, true, [[.int .i64 i30, .int .i64 i31, .str t32, .imm q33 4 f33 (cellss ks33)]]⟩), (5, ⟨24, 4, true, [[.int .i64 k3, .int .i64 n3, .str s3, .imm q3 4 f3 (cellss ks3)]]⟩), (4, ⟨24, 4, true, [[.int .i64 k2, .int .i64 n2, .str s2, .imm q2 4 f2 (cellss ks2)]]⟩), (3, ⟨24, 4, true, [[.int .i64 k1, .int .i64 n1, .str s1, .imm q1 4 f1 (cellss ks1)]]⟩)], [], O, tkj28⟩) rfl ?_ ?_
    ·refine run_draw [] (n := 13) mixed rfl (fun _ h => absurd h List.not_mem_nil) ?_
     refine AAny.take (i := 0) rfl (by kernel_rfl) (by kernel_rfl) (by kernel_rfl) rfl rfl (ltb rfl) (aload_rd hG rfl rfl rfl (by first | (simp [ldok]; done) | exact List.not_mem_nil | trivial)) ?_
     refine AAny.take (i := 2) rfl (by kernel_rfl) (by kernel_rfl) (by kernel_rfl) rfl rfl (ltb rfl) (aload_rd hG rfl rfl rfl (by first | (simp [ldok]; done) | exact List.not_mem_nil | trivial)) ?_
     refine AAny.take (i := 4) rfl (by kernel_rfl) (by kernel_rfl) (by kernel_rfl) rfl rfl (ltb rfl) (aload_rd hG rfl rfl rfl (by first | (simp [ldok]; done) | exact List.not_mem_nil | trivial)) ?_
     refine AAny.eachN (rs := [1, 10]) (by kernel_rfl) (fun h => by cases h) (fun i hi => ?_)
     simp only [List.mem_cons, List.not_mem_nil, or_false] at hi
     rcases hi with rfl | rfl
     ·refine AOpN.of ?_
      obtain ⟨r35, hg36, hM⟩ := bind_t hM
      refine AOp.call rfl rfl rfl rfl (ltb rfl) rfl rfl rfl (fun _ h => absurd h List.not_mem_nil) (fun _ h => absurd h List.not_mem_nil) (w_toTree_ok n k1 n1 s1 q1 f1 ks1 hg36 _ _) (callK_retX (fun v tk37 (hle38 : tk22 ≤ tk37) h39 => ?_))
      obtain ⟨k40, n40, s40, q40, f40, ks40, rfl, rfl, hf41⟩ := h39
      refine AAny.eachN (rs := [3, 10]) (by kernel_rfl) (fun h => by cases h) (fun i hi => ?_)
      simp only [List.mem_cons, List.not_mem_nil, or_false] at hi
      rcases hi with rfl | rfl
      ·refine AOpN.of ?_
       obtain ⟨r42, hg43, hM⟩ := bind_t hM
       refine AOp.call rfl rfl rfl rfl (ltb rfl) rfl rfl rfl (fun _ h => absurd h List.not_mem_nil) (fun _ h => absurd h List.not_mem_nil) (w_toTree_ok n k2 n2 s2 q2 f2 ks2 hg43 _ _) (callK_retX (fun v tk44 (hle45 : tk37 ≤ tk44) h46 => ?_))
       obtain ⟨k47, n47, s47, q47, f47, ks47, rfl, rfl, hf48⟩ := h46
       refine AAny.eachN (rs := [5, 10]) (by kernel_rfl) (fun h => by cases h) (fun i hi => ?_)
       simp only [List.mem_cons, List.not_mem_nil, or_false] at hi
       rcases hi with rfl | rfl
       ·refine AOpN.of ?_
        obtain ⟨r49, hg50, hM⟩ := bind_t hM
        refine AOp.call rfl rfl rfl rfl (ltb rfl) rfl rfl rfl (fun _ h => absurd h List.not_mem_nil) (fun _ h => absurd h List.not_mem_nil) (w_toTree_ok n k3 n3 s3 q3 f3 ks3 hg50 _ _) (callK_retX (fun v tk51 (hle52 : tk44 ≤ tk51) h53 => ?_))
        obtain ⟨k54, n54, s54, q54, f54, ks54, rfl, rfl, hf55⟩ := h53
        refine AAny.eachN (rs := [6, 10]) (by kernel_rfl) (fun h => by cases h) (fun i hi => ?_)
        simp only [List.mem_cons, List.not_mem_nil, or_false] at hi
        rcases hi with rfl | rfl
        ·refine AOpN.of ?_
         obtain ⟨r56, hg57, hM⟩ := bind_t hM
         refine AOp.call rfl rfl rfl rfl (ltb rfl) rfl rfl rfl (fun _ h => absurd h List.not_mem_nil) (fun _ h => absurd h List.not_mem_nil) (s_Subst_ok n k40 n40 s40 q40 f40 ks40 k47 n47 s47 q47 f47 ks47 k54 n54 s54 q54 f54 ks54 hg57 _ _) (callK_retX (fun v tk58 (hle59 : tk51 ≤ tk58) h60 => ?_))
         obtain ⟨ra65, ra66, va67, va68, rfl, rfl, ⟨k61, n61, s61, q61, f61, ks61, rfl, rfl, hf62⟩, rfl⟩ := h60
         refine AAny.take (i := 7) rfl (by kernel_rfl) (by kernel_rfl) (by kernel_rfl) rfl rfl (ltb rfl) ((move_step (.inl rfl) rfl).rd _) ?_
         refine AAny.take (i := 8) rfl (by kernel_rfl) (by kernel_rfl) (by kernel_rfl) rfl rfl (ltb rfl) ((extract_step rfl rfl rfl).rd _) ?_
         refine AAny.take (i := 9) rfl (by kernel_rfl) (by kernel_rfl) (by kernel_rfl) rfl rfl (ltb rfl) ((extract_step rfl rfl rfl).rd _) ?_
         refine AAny.eachN (rs := [10]) (by kernel_rfl) (fun h => by cases h) (fun i hi => ?_)
         simp only [List.mem_cons, List.not_mem_nil, or_false] at hi
         subst hi
         ·refine AOpN.alloc hG rfl rfl rfl (ltb rfl) rfl rfl rfl ?_
          refine AAny.one (i := 11) (by kernel_rfl) (AOp.step0 rfl rfl rfl (store_step hG rfl rfl rfl rfl rfl rfl rfl rfl) (by intro x hx; have hx : x ∈ [ID.loc 8] := hx; simp only [List.mem_cons, List.not_mem_nil, or_false] at hx; subst hx; simp) ?_)
          refine AAny.take (i := 12) rfl (by kernel_rfl) (by kernel_rfl) (by kernel_rfl) rfl rfl (ltb rfl) ((move_step (.inr rfl) rfl).rd _) ?_
          refine AAny.done (by kernel_rfl) ?_
          exact ⟨ra66, k61, n61, s61, q61, f61, ks61, tk58, (show tk22 ≤ tk58 by omega), (show Fr tk22 tk58 _ from ((show Fr tk51 tk58 _ from hf62 rfl)).mono (by omega) (by omega)), hM, Sub.env [(3, .optr (.loc 3) 0 0), (4, .optr (.loc 4) 0 0), (5, .optr (.loc 5) 0 0), (6, .bool false), (8, .optr (.loc 8) 0 0), (9, .int .i64 ra66)] ⟨rfl, rfl, rfl, rfl, rfl, rfl, trivial⟩⟩
        ·refine AOpN.alloc hG rfl rfl rfl (ltb rfl) rfl rfl rfl ?_
         obtain ⟨r69, hg70, hM⟩ := bind_t hM
         refine AAny.one (i := 6) (by kernel_rfl) (AOp.call rfl rfl rfl rfl (ltb rfl) rfl rfl rfl (fun _ h => absurd h List.not_mem_nil) (fun _ h => absurd h List.not_mem_nil) (s_Subst_ok n k40 n40 s40 q40 f40 ks40 k47 n47 s47 q47 f47 ks47 k54 n54 s54 q54 f54 ks54 hg70 _ _) (callK_retX (fun v tk71 (hle72 : tk51 ≤ tk71) h73 => ?_)))
         obtain ⟨ra78, ra79, va80, va81, rfl, rfl, ⟨k74, n74, s74, q74, f74, ks74, rfl, rfl, hf75⟩, rfl⟩ := h73
         refine AAny.take (i := 7) rfl (by kernel_rfl) (by kernel_rfl) (by kernel_rfl) rfl rfl (ltb rfl) ((move_step (.inl rfl) rfl).rd _) ?_
         refine AAny.take (i := 8) rfl (by kernel_rfl) (by kernel_rfl) (by kernel_rfl) rfl rfl (ltb rfl) ((extract_step rfl rfl rfl).rd _) ?_
         refine AAny.take (i := 9) rfl (by kernel_rfl) (by kernel_rfl) (by kernel_rfl) rfl rfl (ltb rfl) ((extract_step rfl rfl rfl).rd _) ?_
         refine AAny.one (i := 11) (by kernel_rfl) (AOp.step0 rfl rfl rfl (store_step hG rfl rfl rfl rfl rfl rfl rfl rfl) (by intro x hx; have hx : x ∈ [ID.loc 8] := hx; simp only [List.mem_cons, List.not_mem_nil, or_false] at hx; subst hx; simp) ?_)
         refine AAny.take (i := 12) rfl (by kernel_rfl) (by kernel_rfl) (by kernel_rfl) rfl rfl (ltb rfl) ((move_step (.inr rfl) rfl).rd _) ?_
         refine AAny.done (by kernel_rfl) ?_
         exact ⟨ra79, k74, n74, s74, q74, f74, ks74, tk71, (show tk22 ≤ tk71 by omega), (show Fr tk22 tk71 _ from ((show Fr tk51 tk71 _ from hf75 rfl)).mono (by omega) (by omega)), hM, Sub.env [(3, .optr (.loc 3) 0 0), (4, .optr (.loc 4) 0 0), (5, .optr (.loc 5) 0 0), (6, .bool false), (8, .optr (.loc 8) 0 0), (9, .int .i64 ra79)] ⟨rfl, rfl, rfl, rfl, rfl, rfl, trivial⟩⟩
       ·refine AOpN.alloc hG rfl rfl rfl (ltb rfl) rfl rfl rfl ?_
        obtain ⟨r82, hg83, hM⟩ := bind_t hM
        refine AAny.one (i := 5) (by kernel_rfl) (AOp.call rfl rfl rfl rfl (ltb rfl) rfl rfl rfl (fun _ h => absurd h List.not_mem_nil) (fun _ h => absurd h List.not_mem_nil) (w_toTree_ok n k3 n3 s3 q3 f3 ks3 hg83 _ _) (callK_retX (fun v tk84 (hle85 : tk44 ≤ tk84) h86 => ?_)))
        obtain ⟨k87, n87, s87, q87, f87, ks87, rfl, rfl, hf88⟩ := h86
        obtain ⟨r89, hg90, hM⟩ := bind_t hM
        refine AAny.one (i := 6) (by kernel_rfl) (AOp.call rfl rfl rfl rfl (ltb rfl) rfl rfl rfl (fun _ h => absurd h List.not_mem_nil) (fun _ h => absurd h List.not_mem_nil) (s_Subst_ok n k40 n40 s40 q40 f40 ks40 k47 n47 s47 q47 f47 ks47 k87 n87 s87 q87 f87 ks87 hg90 _ _) (callK_retX (fun v tk91 (hle92 : tk84 ≤ tk91) h93 => ?_)))
        obtain ⟨ra98, ra99, va100, va101, rfl, rfl, ⟨k94, n94, s94, q94, f94, ks94, rfl, rfl, hf95⟩, rfl⟩ := h93
        refine AAny.take (i := 7) rfl (by kernel_rfl) (by kernel_rfl) (by kernel_rfl) rfl rfl (ltb rfl) ((move_step (.inl rfl) rfl).rd _) ?_
        refine AAny.take (i := 8) rfl (by kernel_rfl) (by kernel_rfl) (by kernel_rfl) rfl rfl (ltb rfl) ((extract_step rfl rfl rfl).rd _) ?_
        refine AAny.take (i := 9) rfl (by kernel_rfl) (by kernel_rfl) (by kernel_rfl) rfl rfl (ltb rfl) ((extract_step rfl rfl rfl).rd _) ?_
        refine AAny.one (i := 11) (by kernel_rfl) (AOp.step0 rfl rfl rfl (store_step hG rfl rfl rfl rfl rfl rfl rfl rfl) (by intro x hx; have hx : x ∈ [ID.loc 8] := hx; simp only [List.mem_cons, List.not_mem_nil, or_false] at hx; subst hx; simp) ?_)
        refine AAny.take (i := 12) rfl (by kernel_rfl) (by kernel_rfl) (by kernel_rfl) rfl rfl (ltb rfl) ((move_step (.inr rfl) rfl).rd _) ?_
        refine AAny.done (by kernel_rfl) ?_
        exact ⟨ra99, k94, n94, s94, q94, f94, ks94, tk91, (show tk22 ≤ tk91 by omega), (show Fr tk22 tk91 _ from ((show Fr tk84 tk91 _ from hf95 rfl)).mono (by omega) (by omega)), hM, Sub.env [(3, .optr (.loc 3) 0 0), (4, .optr (.loc 4) 0 0), (5, .optr (.loc 5) 0 0), (6, .bool false), (8, .optr (.loc 8) 0 0), (9, .int .i64 ra99)] ⟨rfl, rfl, rfl, rfl, rfl, rfl, trivial⟩⟩
      ·refine AOpN.alloc hG rfl rfl rfl (ltb rfl) rfl rfl rfl ?_
       obtain ⟨r102, hg103, hM⟩ := bind_t hM
       refine AAny.one (i := 3) (by kernel_rfl) (AOp.call rfl rfl rfl rfl (ltb rfl) rfl rfl rfl (fun _ h => absurd h List.not_mem_nil) (fun _ h => absurd h List.not_mem_nil) (w_toTree_ok n k2 n2 s2 q2 f2 ks2 hg103 _ _) (callK_retX (fun v tk104 (hle105 : tk37 ≤ tk104) h106 => ?_)))
       obtain ⟨k107, n107, s107, q107, f107, ks107, rfl, rfl, hf108⟩ := h106
       obtain ⟨r109, hg110, hM⟩ := bind_t hM
       refine AAny.one (i := 5) (by kernel_rfl) (AOp.call rfl rfl rfl rfl (ltb rfl) rfl rfl rfl (fun _ h => absurd h List.not_mem_nil) (fun _ h => absurd h List.not_mem_nil) (w_toTree_ok n k3 n3 s3 q3 f3 ks3 hg110 _ _) (callK_retX (fun v tk111 (hle112 : tk104 ≤ tk111) h113 => ?_)))
       obtain ⟨k114, n114, s114, q114, f114, ks114, rfl, rfl, hf115⟩ := h113
       obtain ⟨r116, hg117, hM⟩ := bind_t hM
       refine AAny.one (i := 6) (by kernel_rfl) (AOp.call rfl rfl rfl rfl (ltb rfl) rfl rfl rfl (fun _ h => absurd h List.not_mem_nil) (fun _ h => absurd h List.not_mem_nil) (s_Subst_ok n k40 n40 s40 q40 f40 ks40 k107 n107 s107 q107 f107 ks107 k114 n114 s114 q114 f114 ks114 hg117 _ _) (callK_retX (fun v tk118 (hle119 : tk111 ≤ tk118) h120 => ?_)))
       obtain ⟨ra125, ra126, va127, va128, rfl, rfl, ⟨k121, n121, s121, q121, f121, ks121, rfl, rfl, hf122⟩, rfl⟩ := h120
       refine AAny.take (i := 7) rfl (by kernel_rfl) (by kernel_rfl) (by kernel_rfl) rfl rfl (ltb rfl) ((move_step (.inl rfl) rfl).rd _) ?_
       refine AAny.take (i := 8) rfl (by kernel_rfl) (by kernel_rfl) (by kernel_rfl) rfl rfl (ltb rfl) ((extract_step rfl rfl rfl).rd _) ?_
       refine AAny.take (i := 9) rfl (by kernel_rfl) (by kernel_rfl) (by kernel_rfl) rfl rfl (ltb rfl) ((extract_step rfl rfl rfl).rd _) ?_
       refine AAny.one (i := 11) (by kernel_rfl) (AOp.step0 rfl rfl rfl (store_step hG rfl rfl rfl rfl rfl rfl rfl rfl) (by intro x hx; have hx : x ∈ [ID.loc 8] := hx; simp only [List.mem_cons, List.not_mem_nil, or_false] at hx; subst hx; simp) ?_)
       refine AAny.take (i := 12) rfl (by kernel_rfl) (by kernel_rfl) (by kernel_rfl) rfl rfl (ltb rfl) ((move_step (.inr rfl) rfl).rd _) ?_
       refine AAny.done (by kernel_rfl) ?_
       exact ⟨ra126, k121, n121, s121, q121, f121, ks121, tk118, (show tk22 ≤ tk118 by omega), (show Fr tk22 tk118 _ from ((show Fr tk111 tk118 _ from hf122 rfl)).mono (by omega) (by omega)), hM, Sub.env [(3, .optr (.loc 3) 0 0), (4, .optr (.loc 4) 0 0), (5, .optr (.loc 5) 0 0), (6, .bool false), (8, .optr (.loc 8) 0 0), (9, .int .i64 ra126)] ⟨rfl, rfl, rfl, rfl, rfl, rfl, trivial⟩⟩
     ·refine AOpN.alloc hG rfl rfl rfl (ltb rfl) rfl rfl rfl ?_
      obtain ⟨r129, hg130, hM⟩ := bind_t hM
      refine AAny.one (i := 1) (by kernel_rfl) (AOp.call rfl rfl rfl rfl (ltb rfl) rfl rfl rfl (fun _ h => absurd h List.not_mem_nil) (fun _ h => absurd h List.not_mem_nil) (w_toTree_ok n k1 n1 s1 q1 f1 ks1 hg130 _ _) (callK_retX (fun v tk131 (hle132 : tk22 ≤ tk131) h133 => ?_)))
      obtain ⟨k134, n134, s134, q134, f134, ks134, rfl, rfl, hf135⟩ := h133
      obtain ⟨r136, hg137, hM⟩ := bind_t hM
      refine AAny.one (i := 3) (by kernel_rfl) (AOp.call rfl rfl rfl rfl (ltb rfl) rfl rfl rfl (fun _ h => absurd h List.not_mem_nil) (fun _ h => absurd h List.not_mem_nil) (w_toTree_ok n k2 n2 s2 q2 f2 ks2 hg137 _ _) (callK_retX (fun v tk138 (hle139 : tk131 ≤ tk138) h140 => ?_)))
      obtain ⟨k141, n141, s141, q141, f141, ks141, rfl, rfl, hf142⟩ := h140
      obtain ⟨r143, hg144, hM⟩ := bind_t hM
      refine AAny.one (i := 5) (by kernel_rfl) (AOp.call rfl rfl rfl rfl (ltb rfl) rfl rfl rfl (fun _ h => absurd h List.not_mem_nil) (fun _ h => absurd h List.not_mem_nil) (w_toTree_ok n k3 n3 s3 q3 f3 ks3 hg144 _ _) (callK_retX (fun v tk145 (hle146 : tk138 ≤ tk145) h147 => ?_)))
      obtain ⟨k148, n148, s148, q148, f148, ks148, rfl, rfl, hf149⟩ := h147
      obtain ⟨r150, hg151, hM⟩ := bind_t hM
      refine AAny.one (i := 6) (by kernel_rfl) (AOp.call rfl rfl rfl rfl (ltb rfl) rfl rfl rfl (fun _ h => absurd h List.not_mem_nil) (fun _ h => absurd h List.not_mem_nil) (s_Subst_ok n k134 n134 s134 q134 f134 ks134 k141 n141 s141 q141 f141 ks141 k148 n148 s148 q148 f148 ks148 hg151 _ _) (callK_retX (fun v tk152 (hle153 : tk145 ≤ tk152) h154 => ?_)))
      obtain ⟨ra159, ra160, va161, va162, rfl, rfl, ⟨k155, n155, s155, q155, f155, ks155, rfl, rfl, hf156⟩, rfl⟩ := h154
      refine AAny.take (i := 7) rfl (by kernel_rfl) (by kernel_rfl) (by kernel_rfl) rfl rfl (ltb rfl) ((move_step (.inl rfl) rfl).rd _) ?_
      refine AAny.take (i := 8) rfl (by kernel_rfl) (by kernel_rfl) (by kernel_rfl) rfl rfl (ltb rfl) ((extract_step rfl rfl rfl).rd _) ?_
      refine AAny.take (i := 9) rfl (by kernel_rfl) (by kernel_rfl) (by kernel_rfl) rfl rfl (ltb rfl) ((extract_step rfl rfl rfl).rd _) ?_
      refine AAny.one (i := 11) (by kernel_rfl) (AOp.step0 rfl rfl rfl (store_step hG rfl rfl rfl rfl rfl rfl rfl rfl) (by intro x hx; have hx : x ∈ [ID.loc 8] := hx; simp only [List.mem_cons, List.not_mem_nil, or_false] at hx; subst hx; simp) ?_)
      refine AAny.take (i := 12) rfl (by kernel_rfl) (by kernel_rfl) (by kernel_rfl) rfl rfl (ltb rfl) ((move_step (.inr rfl) rfl).rd _) ?_
      refine AAny.done (by kernel_rfl) ?_
      exact ⟨ra160, k155, n155, s155, q155, f155, ks155, tk152, (show tk22 ≤ tk152 by omega), (show Fr tk22 tk152 _ from ((show Fr tk145 tk152 _ from hf156 rfl)).mono (by omega) (by omega)), hM, Sub.env [(3, .optr (.loc 3) 0 0), (4, .optr (.loc 4) 0 0), (5, .optr (.loc 5) 0 0), (6, .bool false), (8, .optr (.loc 8) 0 0), (9, .int .i64 ra160)] ⟨rfl, rfl, rfl, rfl, rfl, rfl, trivial⟩⟩
    ·clear hM
     rintro σ' ⟨i29, i30, i31, t32, q33, f33, ks33, tkj28, hle461, hfr34, hM, hsub⟩
     rw [hj462] at hM
     clear hj462
     refine run_sub_code hsub ?_
     refine run_sr ?_
     refine run_ld hG rfl rfl rfl rfl rfl (ltb rfl) ?_
     obtain ⟨r163, hg164, hM⟩ := bind_t hM
     refine run_call rfl rfl rfl (ltb rfl) rfl rfl rfl (fun _ h => absurd h List.not_mem_nil) (w_toTree_ok n k1 n1 s1 q1 f1 ks1 hg164 _ _) (callK_retX (fun v tk165 (hle166 : tkj28 ≤ tk165) h167 => ?_))
     obtain ⟨k168, n168, s168, q168, f168, ks168, rfl, rfl, hf169⟩ := h167
     refine run_op rfl (alloc_step (d := 10) hG rfl rfl rfl) rfl (ltb rfl) ?_
     refine run_op0 rfl (store_step hG rfl rfl rfl rfl rfl rfl rfl rfl) rfl ?_
     refine run_ops_nil ?_
     refine run_sr ?_
     refine run_ld hG rfl rfl rfl rfl rfl (ltb rfl) ?_
     obtain ⟨r170, hg171, hM⟩ := bind_t hM
     refine run_call rfl rfl rfl (ltb rfl) rfl rfl rfl (fun _ h => absurd h List.not_mem_nil) (w_toTree_ok n k2 n2 s2 q2 f2 ks2 hg171 _ _) (callK_retX (fun v tk172 (hle173 : tk165 ≤ tk172) h174 => ?_))
     obtain ⟨k175, n175, s175, q175, f175, ks175, rfl, rfl, hf176⟩ := h174
     refine run_op rfl (alloc_step (d := 11) hG rfl rfl rfl) rfl (ltb rfl) ?_
     refine run_op0 rfl (store_step hG rfl rfl rfl rfl rfl rfl rfl rfl) rfl ?_
     refine run_ops_nil ?_
     refine run_sr ?_
     refine run_ld hG rfl rfl rfl rfl rfl (ltb rfl) ?_
     obtain ⟨r177, hg178, hM⟩ := bind_t hM
     refine run_call rfl rfl rfl (ltb rfl) rfl rfl rfl (fun _ h => absurd h List.not_mem_nil) (w_toTree_ok n k3 n3 s3 q3 f3 ks3 hg178 _ _) (callK_retX (fun v tk179 (hle180 : tk172 ≤ tk179) h181 => ?_))
     obtain ⟨k182, n182, s182, q182, f182, ks182, rfl, rfl, hf183⟩ := h181
     refine run_op rfl (alloc_step (d := 12) hG rfl rfl rfl) rfl (ltb rfl) ?_
     refine run_op0 rfl (store_step hG rfl rfl rfl rfl rfl rfl rfl rfl) rfl ?_
     refine run_ops_nil ?_
     refine run_sr ?_
     refine run_ld hG rfl rfl rfl rfl rfl (ltb rfl) ?_
     refine run_ld hG rfl rfl rfl rfl rfl (ltb rfl) ?_
     refine run_ld hG rfl rfl rfl rfl rfl (ltb rfl) ?_
     obtain ⟨r184, hg185, hM⟩ := bind_t hM
     refine run_call rfl rfl rfl (ltb rfl) rfl rfl rfl (fun _ h => absurd h List.not_mem_nil) (i_Subst_ok n k168 n168 s168 q168 f168 ks168 k175 n175 s175 q175 f175 ks175 k182 n182 s182 q182 f182 ks182 hg185 _ _) (callK_retX (fun v tk186 (hle187 : tk179 ≤ tk186) h188 => ?_))
     obtain ⟨ra193, ra194, va195, va196, rfl, rfl, ⟨k189, n189, s189, q189, f189, ks189, rfl, rfl, hf190⟩, rfl⟩ := h188
     refine mvL rfl rfl rfl rfl (ltb rfl) ?_
     refine run_pu rfl (extract_step rfl rfl rfl) rfl (ltb rfl) ?_
     refine run_pu rfl (extract_step rfl rfl rfl) rfl (ltb rfl) ?_
     refine run_op rfl (alloc_step (d := 13) hG rfl rfl rfl) rfl (ltb rfl) ?_
     refine run_op0 rfl (store_step hG rfl rfl rfl rfl rfl rfl rfl rfl) rfl ?_
     refine mvR rfl rfl rfl rfl (ltb rfl) ?_
     refine run_ops_nil ?_
     refine run_sub_code (σ' := ⟨[(3, .optr (.loc 3) 0 0), (4, .optr (.loc 4) 0 0), (5, .optr (.loc 5) 0 0), (6, .bool false), (8, .optr (.loc 8) 0 0), (9, .int .i64 i29), (10, .optr (.loc 10) 0 0), (11, .optr (.loc 11) 0 0), (12, .optr (.loc 12) 0 0), (13, .optr (.loc 13) 0 0), (14, .int .i64 ra194)], [(13, ⟨29, 4, true, [[.int .i64 k189, .int .i64 n189, .str s189, .imm q189 4 f189 (cellss ks189)]]⟩), (12, ⟨29, 4, true, [[.int .i64 k182, .int .i64 n182, .str s182, .imm q182 4 f182 (cellss ks182)]]⟩), (11, ⟨29, 4, true, [[.int .i64 k175, .int .i64 n175, .str s175, .imm q175 4 f175 (cellss ks175)]]⟩), (10, ⟨29, 4, true, [[.int .i64 k168, .int .i64 n168, .str s168, .imm q168 4 f168 (cellss ks168)]]⟩), (8, ⟨29, 4, true, [[.int .i64 i30, .int .i64 i31, .str t32, .imm q33 4 f33 (cellss ks33)]]⟩), (5, ⟨24, 4, true, [[.int .i64 k3, .int .i64 n3, .str s3, .imm q3 4 f3 (cellss ks3)]]⟩), (4, ⟨24, 4, true, [[.int .i64 k2, .int .i64 n2, .str s2, .imm q2 4 f2 (cellss ks2)]]⟩), (3, ⟨24, 4, true, [[.int .i64 k1, .int .i64 n1, .str s1, .imm q1 4 f1 (cellss ks1)]]⟩)], [], O, tk186⟩) (Sub.env _ ⟨rfl, rfl, rfl, rfl, rfl, rfl, rfl, rfl, rfl, rfl, rfl, trivial⟩) ?_
     refine run_seq ?_
     refine run_sr ?_
     refine run_ld hG rfl rfl rfl rfl rfl (ltb rfl) ?_
     refine run_ld hG rfl rfl rfl rfl rfl (ltb rfl) ?_
     obtain ⟨r197, hg198, hM⟩ := bind_t hM
     refine run_call rfl rfl rfl (ltb rfl) rfl rfl rfl (fun _ h => absurd h List.not_mem_nil) (w_eqTree_ok n k189 n189 s189 q189 f189 ks189 i30 i31 t32 q33 f33 ks33 hg198 _ _) (callK_retX (fun v tk199 (hle200 : tk186 ≤ tk199) h201 => ?_))
     subst h201
     refine run_pu rfl (aun_step rfl rfl rfl) rfl (ltb rfl) ?_
     refine mvL rfl rfl rfl rfl (ltb rfl) ?_
     refine run_splitb (i := 62) rfl (fun hb204 => ?_) (fun hb204 => ?_)
     ·replace hM := ite_t hb204 hM
      refine run_off (on_of rfl rfl rfl rfl) rfl (ltb rfl) ?_
      refine run_off (on_of rfl rfl rfl rfl) rfl (ltb rfl) ?_
      refine run_off (on_of rfl rfl rfl rfl) rfl (ltb rfl) ?_
      refine run_pu rfl (pick_step rfl rfl rfl) rfl (ltb rfl) ?_
      refine run_ops_nil ?_
      refine run_if rfl rfl (fun _ => ?_) (fun h => by cases h)
      refine run_sr ?_
      refine mvR rfl rfl rfl rfl (ltb rfl) ?_
      refine run_ops_nil ?_
      refine run_ret_to ?_
      obtain rfl := some_t hM
      refine fin_x hG rfl rfl rfl (v' := .bool false) (by rfl) ⟨rfl, (show tk ≤ tk199 by omega), _, rfl, rfl⟩
     ·replace hM := ite_f hb204 hM
      refine run_puG (on_of rfl rfl rfl rfl) (move_step (.inl rfl) rfl) rfl (ltb rfl) ?_
      refine run_puG (on_of rfl rfl rfl rfl) (move_step (.inl rfl) rfl) rfl (ltb rfl) ?_
      refine run_puG (on_of rfl rfl rfl rfl) (abin_step rfl rfl rfl rfl (fun _ h => by cases h)) rfl (ltb rfl) ?_
      refine run_pu rfl (pick_step rfl rfl rfl) rfl (ltb rfl) ?_
      refine run_ops_nil ?_
      refine run_ifb rfl rfl (fun hb205 => ?_) (fun hb205 => ?_)
      ·replace hM := ite_t hb205 hM
       refine run_sr ?_
       refine mvR rfl rfl rfl rfl (ltb rfl) ?_
       refine run_ops_nil ?_
       refine run_ret_to ?_
       obtain rfl := some_t hM
       refine fin_x hG rfl rfl rfl (v' := .bool false) (by rfl) ⟨rfl, (show tk ≤ tk199 by omega), _, rfl, rfl⟩
      ·replace hM := ite_f hb205 hM
       refine run_skip ?_
       refine run_seq ?_
       refine run_seq ?_
       refine run_draw [] (n := 5) mixed rfl (fun _ h => absurd h List.not_mem_nil) ?_
       refine AAny.take (i := 0) rfl (by kernel_rfl) (by kernel_rfl) (by kernel_rfl) rfl rfl (ltb rfl) (aload_rd hG rfl rfl rfl (by first | (simp [ldok]; done) | exact List.not_mem_nil | trivial)) ?_
       refine AAny.take (i := 1) rfl (by kernel_rfl) (by kernel_rfl) (by kernel_rfl) rfl rfl (ltb rfl) (aload_rd hG rfl rfl rfl (by first | (simp [ldok]; done) | exact List.not_mem_nil | trivial)) ?_
       obtain ⟨r206, hg207, hM⟩ := bind_t hM
       refine AAny.one (i := 2) (by kernel_rfl) (AOp.call rfl rfl rfl rfl (ltb rfl) rfl rfl rfl (fun _ h => absurd h List.not_mem_nil) (fun _ h => absurd h List.not_mem_nil) (w_toTree_ok n k1 n1 s1 q1 f1 ks1 hg207 _ _) (callK_retX (fun v tk208 (hle209 : tk199 ≤ tk208) h210 => ?_)))
       obtain ⟨k211, n211, s211, q211, f211, ks211, rfl, rfl, hf212⟩ := h210
       obtain ⟨r213, hg214, hM⟩ := bind_t hM
       refine AAny.one (i := 3) (by kernel_rfl) (AOp.call rfl rfl rfl rfl (ltb rfl) rfl rfl rfl (fun _ h => absurd h List.not_mem_nil) (fun _ h => absurd h List.not_mem_nil) (w_eqTree_ok n k168 n168 s168 q168 f168 ks168 k211 n211 s211 q211 f211 ks211 hg214 _ _) (callK_retX (fun v tk215 (hle216 : tk208 ≤ tk215) h217 => ?_)))
       subst h217
       refine AAny.take (i := 4) rfl (by kernel_rfl) (by kernel_rfl) (by kernel_rfl) rfl rfl (ltb rfl) ((aun_step rfl rfl rfl).rd _) ?_
       refine AAny.done (by kernel_rfl) ?_
       refine run_sub_code (σ' := ⟨[(3, .optr (.loc 3) 0 0), (4, .optr (.loc 4) 0 0), (5, .optr (.loc 5) 0 0), (6, .bool false), (8, .optr (.loc 8) 0 0), (9, .int .i64 i29), (10, .optr (.loc 10) 0 0), (11, .optr (.loc 11) 0 0), (12, .optr (.loc 12) 0 0), (13, .optr (.loc 13) 0 0), (14, .int .i64 ra194), (71, .bool (!r213))], [(13, ⟨29, 4, true, [[.int .i64 k189, .int .i64 n189, .str s189, .imm q189 4 f189 (cellss ks189)]]⟩), (12, ⟨29, 4, true, [[.int .i64 k182, .int .i64 n182, .str s182, .imm q182 4 f182 (cellss ks182)]]⟩), (11, ⟨29, 4, true, [[.int .i64 k175, .int .i64 n175, .str s175, .imm q175 4 f175 (cellss ks175)]]⟩), (10, ⟨29, 4, true, [[.int .i64 k168, .int .i64 n168, .str s168, .imm q168 4 f168 (cellss ks168)]]⟩), (8, ⟨29, 4, true, [[.int .i64 i30, .int .i64 i31, .str t32, .imm q33 4 f33 (cellss ks33)]]⟩), (5, ⟨24, 4, true, [[.int .i64 k3, .int .i64 n3, .str s3, .imm q3 4 f3 (cellss ks3)]]⟩), (4, ⟨24, 4, true, [[.int .i64 k2, .int .i64 n2, .str s2, .imm q2 4 f2 (cellss ks2)]]⟩), (3, ⟨24, 4, true, [[.int .i64 k1, .int .i64 n1, .str s1, .imm q1 4 f1 (cellss ks1)]]⟩)], [], O, tk215⟩) (Sub.env _ ⟨rfl, rfl, rfl, rfl, rfl, rfl, rfl, rfl, rfl, rfl, rfl, rfl, trivial⟩) ?_
       refine run_ifb rfl rfl (fun hb220 => ?_) (fun hb220 => ?_)
       ·replace hM := ite_t hb220 hM
        refine run_sr ?_
        refine mvR rfl rfl rfl rfl (ltb rfl) ?_
        refine run_ops_nil ?_
        refine run_ret_to ?_
        obtain rfl := some_t hM
        refine fin_x hG rfl rfl rfl (v' := .bool false) (by rfl) ⟨rfl, (show tk ≤ tk215 by omega), _, rfl, rfl⟩
       ·replace hM := ite_f hb220 hM
        refine run_skip ?_
        refine run_seq ?_
        refine run_seq ?_
        refine run_draw [] (n := 5) mixed rfl (fun _ h => absurd h List.not_mem_nil) ?_
        refine AAny.take (i := 0) rfl (by kernel_rfl) (by kernel_rfl) (by kernel_rfl) rfl rfl (ltb rfl) (aload_rd hG rfl rfl rfl (by first | (simp [ldok]; done) | exact List.not_mem_nil | trivial)) ?_
        refine AAny.take (i := 1) rfl (by kernel_rfl) (by kernel_rfl) (by kernel_rfl) rfl rfl (ltb rfl) (aload_rd hG rfl rfl rfl (by first | (simp [ldok]; done) | exact List.not_mem_nil | trivial)) ?_
        obtain ⟨r221, hg222, hM⟩ := bind_t hM
        refine AAny.one (i := 2) (by kernel_rfl) (AOp.call rfl rfl rfl rfl (ltb rfl) rfl rfl rfl (fun _ h => absurd h List.not_mem_nil) (fun _ h => absurd h List.not_mem_nil) (w_toTree_ok n k2 n2 s2 q2 f2 ks2 hg222 _ _) (callK_retX (fun v tk223 (hle224 : tk215 ≤ tk223) h225 => ?_)))
        obtain ⟨k226, n226, s226, q226, f226, ks226, rfl, rfl, hf227⟩ := h225
        obtain ⟨r228, hg229, hM⟩ := bind_t hM
        refine AAny.one (i := 3) (by kernel_rfl) (AOp.call rfl rfl rfl rfl (ltb rfl) rfl rfl rfl (fun _ h => absurd h List.not_mem_nil) (fun _ h => absurd h List.not_mem_nil) (w_eqTree_ok n k175 n175 s175 q175 f175 ks175 k226 n226 s226 q226 f226 ks226 hg229 _ _) (callK_retX (fun v tk230 (hle231 : tk223 ≤ tk230) h232 => ?_)))
        subst h232
        refine AAny.take (i := 4) rfl (by kernel_rfl) (by kernel_rfl) (by kernel_rfl) rfl rfl (ltb rfl) ((aun_step rfl rfl rfl).rd _) ?_
        refine AAny.done (by kernel_rfl) ?_
        refine run_ifb rfl rfl (fun hb235 => ?_) (fun hb235 => ?_)
        ·replace hM := ite_t hb235 hM
         refine run_sr ?_
         refine mvR rfl rfl rfl rfl (ltb rfl) ?_
         refine run_ops_nil ?_
         refine run_ret_to ?_
         obtain rfl := some_t hM
         refine fin_x hG rfl rfl rfl (v' := .bool false) (by rfl) ⟨rfl, (show tk ≤ tk230 by omega), _, rfl, rfl⟩
        ·replace hM := ite_f hb235 hM
         refine run_skip ?_
         refine run_seq ?_
         refine run_seq ?_
         refine run_draw [] (n := 5) mixed rfl (fun _ h => absurd h List.not_mem_nil) ?_
         refine AAny.take (i := 0) rfl (by kernel_rfl) (by kernel_rfl) (by kernel_rfl) rfl rfl (ltb rfl) (aload_rd hG rfl rfl rfl (by first | (simp [ldok]; done) | exact List.not_mem_nil | trivial)) ?_
         refine AAny.take (i := 1) rfl (by kernel_rfl) (by kernel_rfl) (by kernel_rfl) rfl rfl (ltb rfl) (aload_rd hG rfl rfl rfl (by first | (simp [ldok]; done) | exact List.not_mem_nil | trivial)) ?_
         obtain ⟨r236, hg237, hM⟩ := bind_t hM
         refine AAny.one (i := 2) (by kernel_rfl) (AOp.call rfl rfl rfl rfl (ltb rfl) rfl rfl rfl (fun _ h => absurd h List.not_mem_nil) (fun _ h => absurd h List.not_mem_nil) (w_toTree_ok n k3 n3 s3 q3 f3 ks3 hg237 _ _) (callK_retX (fun v tk238 (hle239 : tk230 ≤ tk238) h240 => ?_)))
         obtain ⟨k241, n241, s241, q241, f241, ks241, rfl, rfl, hf242⟩ := h240
         obtain ⟨r243, hg244, hM⟩ := bind_t hM
         refine AAny.one (i := 3) (by kernel_rfl) (AOp.call rfl rfl rfl rfl (ltb rfl) rfl rfl rfl (fun _ h => absurd h List.not_mem_nil) (fun _ h => absurd h List.not_mem_nil) (w_eqTree_ok n k182 n182 s182 q182 f182 ks182 k241 n241 s241 q241 f241 ks241 hg244 _ _) (callK_retX (fun v tk245 (hle246 : tk238 ≤ tk245) h247 => ?_)))
         subst h247
         refine AAny.take (i := 4) rfl (by kernel_rfl) (by kernel_rfl) (by kernel_rfl) rfl rfl (ltb rfl) ((aun_step rfl rfl rfl).rd _) ?_
         refine AAny.done (by kernel_rfl) ?_
         refine run_ifb rfl rfl (fun hb250 => ?_) (fun hb250 => ?_)
         ·replace hM := ite_t hb250 hM
          refine run_sr ?_
          refine mvR rfl rfl rfl rfl (ltb rfl) ?_
          refine run_ops_nil ?_
          refine run_ret_to ?_
          obtain rfl := some_t hM
          refine fin_x hG rfl rfl rfl (v' := .bool false) (by rfl) ⟨rfl, (show tk ≤ tk245 by omega), _, rfl, rfl⟩
         ·replace hM := ite_f hb250 hM
          refine run_skip ?_
          refine run_sr ?_
          refine mvR rfl rfl rfl rfl (ltb rfl) ?_
          refine run_ops_nil ?_
          refine run_sr ?_
          refine run_ld hG rfl rfl rfl rfl rfl (ltb rfl) ?_
          refine mvL rfl rfl rfl rfl (ltb rfl) ?_
          obtain ⟨r251, hg252, hM⟩ := bind_t hM
          refine run_callT rfl rfl rfl (ltb rfl) rfl rfl rfl rfl rfl hOn (fun x hx => by have := ((show Fr tkj28 tk165 _ from (show Fr tkj28 tk165 _ from hf169 rfl))).2 x hx; show S0.tk ≤ x; omega) (w_markTree_m k168 n168 s168 q168 f168 ks168 1 _ (Fr.ge (show Fr tkj28 tk165 _ from (show Fr tkj28 tk165 _ from hf169 rfl)) (by omega)) ((show Fr tkj28 tk165 _ from (show Fr tkj28 tk165 _ from hf169 rfl))).1 hg252) (fun out S' hR (hle254 : tk245 ≤ S'.tk) => ?_)
          obtain ⟨ks255, k256, rfl, rfl, _, hst257, hln258, hu259⟩ := hR
          generalize S'.tk = tk253 at hle254 ⊢
          refine ⟨_, rfl, rfl, GT q168 f168 ks168 ks255, GT.turned (Fr.ge (show Fr tkj28 tk165 _ from (show Fr tkj28 tk165 _ from hf169 rfl)) (by omega)) hst257 hln258 hu259, [(3, .optr (.loc 3) 0 0), (4, .optr (.loc 4) 0 0), (5, .optr (.loc 5) 0 0), (6, .bool false), (8, .optr (.loc 8) 0 0), (9, .int .i64 i29), (10, .optr (.loc 10) 0 0), (11, .optr (.loc 11) 0 0), (12, .optr (.loc 12) 0 0), (13, .optr (.loc 13) 0 0), (14, .int .i64 ra194), (71, .bool (!r213)), (72, .agg [.int .i64 k175, .int .i64 n175, .str s175, .imm q175 4 f175 (cellss ks175)]), (73, .agg [.int .i64 k2, .int .i64 n2, .str s2, .imm q2 4 f2 (cellss ks2)]), (74, .agg [.int .i64 k226, .int .i64 n226, .str s226, .imm q226 4 f226 (cellss ks226)]), (75, .bool r228), (76, .bool (!r228)), (77, .agg [.int .i64 k182, .int .i64 n182, .str s182, .imm q182 4 f182 (cellss ks182)]), (78, .agg [.int .i64 k3, .int .i64 n3, .str s3, .imm q3 4 f3 (cellss ks3)]), (79, .agg [.int .i64 k241, .int .i64 n241, .str s241, .imm q241 4 f241 (cellss ks241)]), (80, .bool r243), (81, .bool (!r243)), (15, .int .i64 1), (82, .agg [.int .i64 k168, .int .i64 n168, .str s168, .imm q168 4 f168 (cellss ks255)]), (83, .int .i64 1)], [(13, ⟨29, 4, true, [[.int .i64 k189, .int .i64 n189, .str s189, .imm q189 4 f189 (cellss ks189)]]⟩), (12, ⟨29, 4, true, [[.int .i64 k182, .int .i64 n182, .str s182, .imm q182 4 f182 (cellss ks182)]]⟩), (11, ⟨29, 4, true, [[.int .i64 k175, .int .i64 n175, .str s175, .imm q175 4 f175 (cellss ks175)]]⟩), (10, ⟨29, 4, true, [[.int .i64 k168, .int .i64 n168, .str s168, .imm q168 4 f168 (cellss ks255)]]⟩), (8, ⟨29, 4, true, [[.int .i64 i30, .int .i64 i31, .str t32, .imm q33 4 f33 (cellss ks33)]]⟩), (5, ⟨24, 4, true, [[.int .i64 k3, .int .i64 n3, .str s3, .imm q3 4 f3 (cellss ks3)]]⟩), (4, ⟨24, 4, true, [[.int .i64 k2, .int .i64 n2, .str s2, .imm q2 4 f2 (cellss ks2)]]⟩), (3, ⟨24, 4, true, [[.int .i64 k1, .int .i64 n1, .str s1, .imm q1 4 f1 (cellss ks1)]]⟩)], (.cons _ _ _ _ rfl (.optr _ _ _) (.cons _ _ _ _ rfl (.optr _ _ _) (.cons _ _ _ _ rfl (.optr _ _ _) (.cons _ _ _ _ rfl (Tn.av (.bool _)) (.cons _ _ _ _ rfl (.optr _ _ _) (.cons _ _ _ _ rfl (Tn.av (.int _ _)) (.cons _ _ _ _ rfl (.optr _ _ _) (.cons _ _ _ _ rfl (.optr _ _ _) (.cons _ _ _ _ rfl (.optr _ _ _) (.cons _ _ _ _ rfl (.optr _ _ _) (.cons _ _ _ _ rfl (Tn.av (.int _ _)) (.cons _ _ _ _ rfl (Tn.av (.bool _)) (.cons _ _ _ _ rfl (TnCs.agg (.cons _ _ _ _ (Tn.av (.int _ _)) (.cons _ _ _ _ (Tn.av (.int _ _)) (.cons _ _ _ _ (Tn.av (.str _)) (.cons _ _ _ _ (Tn.av (ts_av (fr_av (show Fr tk165 tk172 _ from (show Fr tk165 tk172 _ from hf176 rfl)) (show Fr tkj28 tk165 _ from (show Fr tkj28 tk165 _ from hf169 rfl)) (by omega) (by omega)))) .nil)))) rfl) (.cons _ _ _ _ rfl (TnCs.agg (.cons _ _ _ _ (Tn.av (.int _ _)) (.cons _ _ _ _ (Tn.av (.int _ _)) (.cons _ _ _ _ (Tn.av (.str _)) (.cons _ _ _ _ (Tn.av (ts_av (old_av ho1))) .nil)))) rfl) (.cons _ _ _ _ rfl (TnCs.agg (.cons _ _ _ _ (Tn.av (.int _ _)) (.cons _ _ _ _ (Tn.av (.int _ _)) (.cons _ _ _ _ (Tn.av (.str _)) (.cons _ _ _ _ (Tn.av (ts_av (fr_av (show Fr tk215 tk223 _ from (show Fr tk215 tk223 _ from hf227 rfl)) (show Fr tkj28 tk165 _ from (show Fr tkj28 tk165 _ from hf169 rfl)) (by omega) (by omega)))) .nil)))) rfl) (.cons _ _ _ _ rfl (Tn.av (.bool _)) (.cons _ _ _ _ rfl (Tn.av (.bool _)) (.cons _ _ _ _ rfl (TnCs.agg (.cons _ _ _ _ (Tn.av (.int _ _)) (.cons _ _ _ _ (Tn.av (.int _ _)) (.cons _ _ _ _ (Tn.av (.str _)) (.cons _ _ _ _ (Tn.av (ts_av (fr_av (show Fr tk172 tk179 _ from (show Fr tk172 tk179 _ from hf183 rfl)) (show Fr tkj28 tk165 _ from (show Fr tkj28 tk165 _ from hf169 rfl)) (by omega) (by omega)))) .nil)))) rfl) (.cons _ _ _ _ rfl (TnCs.agg (.cons _ _ _ _ (Tn.av (.int _ _)) (.cons _ _ _ _ (Tn.av (.int _ _)) (.cons _ _ _ _ (Tn.av (.str _)) (.cons _ _ _ _ (Tn.av (ts_av (old_av ho2))) .nil)))) rfl) (.cons _ _ _ _ rfl (TnCs.agg (.cons _ _ _ _ (Tn.av (.int _ _)) (.cons _ _ _ _ (Tn.av (.int _ _)) (.cons _ _ _ _ (Tn.av (.str _)) (.cons _ _ _ _ (Tn.av (ts_av (fr_av (show Fr tk230 tk238 _ from (show Fr tk230 tk238 _ from hf242 rfl)) (show Fr tkj28 tk165 _ from (show Fr tkj28 tk165 _ from hf169 rfl)) (by omega) (by omega)))) .nil)))) rfl) (.cons _ _ _ _ rfl (Tn.av (.bool _)) (.cons _ _ _ _ rfl (Tn.av (.bool _)) (.cons _ _ _ _ rfl (Tn.av (.int _ _)) (.cons _ _ _ _ rfl (TnCs.agg (.cons _ _ _ _ (Tn.av (.int _ _)) (.cons _ _ _ _ (Tn.av (.int _ _)) (.cons _ _ _ _ (Tn.av (.str _)) (.cons _ _ _ _ (GT.tn hln258) .nil)))) rfl) (.cons _ _ _ _ rfl (Tn.av (.int _ _)) .nil))))))))))))))))))))))))), (.cons _ _ _ _ _ (TnCs.box (.cons _ _ _ _ (Tn.av (.int _ _)) (.cons _ _ _ _ (Tn.av (.int _ _)) (.cons _ _ _ _ (Tn.av (.str _)) (.cons _ _ _ _ (Tn.av (ts_av (fr_av (show Fr tk179 tk186 _ from (show Fr tk179 tk186 _ from hf190 rfl)) (show Fr tkj28 tk165 _ from (show Fr tkj28 tk165 _ from hf169 rfl)) (by omega) (by omega)))) .nil)))) rfl) (.cons _ _ _ _ _ (TnCs.box (.cons _ _ _ _ (Tn.av (.int _ _)) (.cons _ _ _ _ (Tn.av (.int _ _)) (.cons _ _ _ _ (Tn.av (.str _)) (.cons _ _ _ _ (Tn.av (ts_av (fr_av (show Fr tk172 tk179 _ from (show Fr tk172 tk179 _ from hf183 rfl)) (show Fr tkj28 tk165 _ from (show Fr tkj28 tk165 _ from hf169 rfl)) (by omega) (by omega)))) .nil)))) rfl) (.cons _ _ _ _ _ (TnCs.box (.cons _ _ _ _ (Tn.av (.int _ _)) (.cons _ _ _ _ (Tn.av (.int _ _)) (.cons _ _ _ _ (Tn.av (.str _)) (.cons _ _ _ _ (Tn.av (ts_av (fr_av (show Fr tk165 tk172 _ from (show Fr tk165 tk172 _ from hf176 rfl)) (show Fr tkj28 tk165 _ from (show Fr tkj28 tk165 _ from hf169 rfl)) (by omega) (by omega)))) .nil)))) rfl) (.cons _ _ _ _ _ (TnCs.box (.cons _ _ _ _ (Tn.av (.int _ _)) (.cons _ _ _ _ (Tn.av (.int _ _)) (.cons _ _ _ _ (Tn.av (.str _)) (.cons _ _ _ _ (GT.tn hln258) .nil)))) rfl) (.cons _ _ _ _ _ (TnCs.box (.cons _ _ _ _ (Tn.av (.int _ _)) (.cons _ _ _ _ (Tn.av (.int _ _)) (.cons _ _ _ _ (Tn.av (.str _)) (.cons _ _ _ _ (Tn.av (ts_av (fr_av (show Fr tk22 tkj28 _ from hfr34) (show Fr tkj28 tk165 _ from (show Fr tkj28 tk165 _ from hf169 rfl)) (by omega) (by omega)))) .nil)))) rfl) (.cons _ _ _ _ _ (TnCs.box (.cons _ _ _ _ (Tn.av (.int _ _)) (.cons _ _ _ _ (Tn.av (.int _ _)) (.cons _ _ _ _ (Tn.av (.str _)) (.cons _ _ _ _ (Tn.av (ts_av (old_av ho2))) .nil)))) rfl) (.cons _ _ _ _ _ (TnCs.box (.cons _ _ _ _ (Tn.av (.int _ _)) (.cons _ _ _ _ (Tn.av (.int _ _)) (.cons _ _ _ _ (Tn.av (.str _)) (.cons _ _ _ _ (Tn.av (ts_av (old_av ho1))) .nil)))) rfl) (.cons _ _ _ _ _ (TnCs.box (.cons _ _ _ _ (Tn.av (.int _ _)) (.cons _ _ _ _ (Tn.av (.int _ _)) (.cons _ _ _ _ (Tn.av (.str _)) (.cons _ _ _ _ (Tn.av (ts_av (old_av ho0))) .nil)))) rfl) .nil)))))))), ?_⟩
          refine mvR rfl rfl rfl rfl (ltb rfl) ?_
          refine run_ops_nil ?_
          refine run_sub_code (σ' := ⟨[(3, .optr (.loc 3) 0 0), (4, .optr (.loc 4) 0 0), (5, .optr (.loc 5) 0 0), (6, .bool false), (8, .optr (.loc 8) 0 0), (9, .int .i64 i29), (11, .optr (.loc 11) 0 0), (12, .optr (.loc 12) 0 0), (13, .optr (.loc 13) 0 0), (14, .int .i64 ra194), (15, .int .i64 k256)], [(13, ⟨29, 4, true, [[.int .i64 k189, .int .i64 n189, .str s189, .imm q189 4 f189 (cellss ks189)]]⟩), (12, ⟨29, 4, true, [[.int .i64 k182, .int .i64 n182, .str s182, .imm q182 4 f182 (cellss ks182)]]⟩), (11, ⟨29, 4, true, [[.int .i64 k175, .int .i64 n175, .str s175, .imm q175 4 f175 (cellss ks175)]]⟩), (8, ⟨29, 4, true, [[.int .i64 i30, .int .i64 i31, .str t32, .imm q33 4 f33 (cellss ks33)]]⟩), (5, ⟨24, 4, true, [[.int .i64 k3, .int .i64 n3, .str s3, .imm q3 4 f3 (cellss ks3)]]⟩), (4, ⟨24, 4, true, [[.int .i64 k2, .int .i64 n2, .str s2, .imm q2 4 f2 (cellss ks2)]]⟩), (3, ⟨24, 4, true, [[.int .i64 k1, .int .i64 n1, .str s1, .imm q1 4 f1 (cellss ks1)]]⟩)], [], O, tk253⟩) (Sub.trans (Sub.drop (k := 10) rfl) (Sub.env _ ⟨rfl, rfl, rfl, rfl, rfl, rfl, rfl, rfl, rfl, rfl, rfl, trivial⟩)) ?_
          refine run_sr ?_
          refine run_ld hG rfl rfl rfl rfl rfl (ltb rfl) ?_
          refine mvL rfl rfl rfl rfl (ltb rfl) ?_
          obtain ⟨r260, hg261, hM⟩ := bind_t hM
          refine run_callT rfl rfl rfl (ltb rfl) rfl rfl rfl rfl rfl hOn (fun x hx => by have := ((show Fr tk165 tk172 _ from (show Fr tk165 tk172 _ from hf176 rfl))).2 x hx; show S0.tk ≤ x; omega) (w_markTree_m k175 n175 s175 q175 f175 ks175 k256 _ (Fr.ge (show Fr tk165 tk172 _ from (show Fr tk165 tk172 _ from hf176 rfl)) (by omega)) ((show Fr tk165 tk172 _ from (show Fr tk165 tk172 _ from hf176 rfl))).1 hg261) (fun out S' hR (hle263 : tk253 ≤ S'.tk) => ?_)
          obtain ⟨ks264, k265, rfl, rfl, _, hst266, hln267, hu268⟩ := hR
          generalize S'.tk = tk262 at hle263 ⊢
          refine ⟨_, rfl, rfl, GT q175 f175 ks175 ks264, GT.turned (Fr.ge (show Fr tk165 tk172 _ from (show Fr tk165 tk172 _ from hf176 rfl)) (by omega)) hst266 hln267 hu268, [(3, .optr (.loc 3) 0 0), (4, .optr (.loc 4) 0 0), (5, .optr (.loc 5) 0 0), (6, .bool false), (8, .optr (.loc 8) 0 0), (9, .int .i64 i29), (11, .optr (.loc 11) 0 0), (12, .optr (.loc 12) 0 0), (13, .optr (.loc 13) 0 0), (14, .int .i64 ra194), (15, .int .i64 k256), (85, .agg [.int .i64 k175, .int .i64 n175, .str s175, .imm q175 4 f175 (cellss ks264)]), (86, .int .i64 k256)], [(13, ⟨29, 4, true, [[.int .i64 k189, .int .i64 n189, .str s189, .imm q189 4 f189 (cellss ks189)]]⟩), (12, ⟨29, 4, true, [[.int .i64 k182, .int .i64 n182, .str s182, .imm q182 4 f182 (cellss ks182)]]⟩), (11, ⟨29, 4, true, [[.int .i64 k175, .int .i64 n175, .str s175, .imm q175 4 f175 (cellss ks264)]]⟩), (8, ⟨29, 4, true, [[.int .i64 i30, .int .i64 i31, .str t32, .imm q33 4 f33 (cellss ks33)]]⟩), (5, ⟨24, 4, true, [[.int .i64 k3, .int .i64 n3, .str s3, .imm q3 4 f3 (cellss ks3)]]⟩), (4, ⟨24, 4, true, [[.int .i64 k2, .int .i64 n2, .str s2, .imm q2 4 f2 (cellss ks2)]]⟩), (3, ⟨24, 4, true, [[.int .i64 k1, .int .i64 n1, .str s1, .imm q1 4 f1 (cellss ks1)]]⟩)], (.cons _ _ _ _ rfl (.optr _ _ _) (.cons _ _ _ _ rfl (.optr _ _ _) (.cons _ _ _ _ rfl (.optr _ _ _) (.cons _ _ _ _ rfl (Tn.av (.bool _)) (.cons _ _ _ _ rfl (.optr _ _ _) (.cons _ _ _ _ rfl (Tn.av (.int _ _)) (.cons _ _ _ _ rfl (.optr _ _ _) (.cons _ _ _ _ rfl (.optr _ _ _) (.cons _ _ _ _ rfl (.optr _ _ _) (.cons _ _ _ _ rfl (Tn.av (.int _ _)) (.cons _ _ _ _ rfl (Tn.av (.int _ _)) (.cons _ _ _ _ rfl (TnCs.agg (.cons _ _ _ _ (Tn.av (.int _ _)) (.cons _ _ _ _ (Tn.av (.int _ _)) (.cons _ _ _ _ (Tn.av (.str _)) (.cons _ _ _ _ (GT.tn hln267) .nil)))) rfl) (.cons _ _ _ _ rfl (Tn.av (.int _ _)) .nil))))))))))))), (.cons _ _ _ _ _ (TnCs.box (.cons _ _ _ _ (Tn.av (.int _ _)) (.cons _ _ _ _ (Tn.av (.int _ _)) (.cons _ _ _ _ (Tn.av (.str _)) (.cons _ _ _ _ (Tn.av (ts_av (fr_av (show Fr tk179 tk186 _ from (show Fr tk179 tk186 _ from hf190 rfl)) (show Fr tk165 tk172 _ from (show Fr tk165 tk172 _ from hf176 rfl)) (by omega) (by omega)))) .nil)))) rfl) (.cons _ _ _ _ _ (TnCs.box (.cons _ _ _ _ (Tn.av (.int _ _)) (.cons _ _ _ _ (Tn.av (.int _ _)) (.cons _ _ _ _ (Tn.av (.str _)) (.cons _ _ _ _ (Tn.av (ts_av (fr_av (show Fr tk172 tk179 _ from (show Fr tk172 tk179 _ from hf183 rfl)) (show Fr tk165 tk172 _ from (show Fr tk165 tk172 _ from hf176 rfl)) (by omega) (by omega)))) .nil)))) rfl) (.cons _ _ _ _ _ (TnCs.box (.cons _ _ _ _ (Tn.av (.int _ _)) (.cons _ _ _ _ (Tn.av (.int _ _)) (.cons _ _ _ _ (Tn.av (.str _)) (.cons _ _ _ _ (GT.tn hln267) .nil)))) rfl) (.cons _ _ _ _ _ (TnCs.box (.cons _ _ _ _ (Tn.av (.int _ _)) (.cons _ _ _ _ (Tn.av (.int _ _)) (.cons _ _ _ _ (Tn.av (.str _)) (.cons _ _ _ _ (Tn.av (ts_av (fr_av (show Fr tk22 tkj28 _ from hfr34) (show Fr tk165 tk172 _ from (show Fr tk165 tk172 _ from hf176 rfl)) (by omega) (by omega)))) .nil)))) rfl) (.cons _ _ _ _ _ (TnCs.box (.cons _ _ _ _ (Tn.av (.int _ _)) (.cons _ _ _ _ (Tn.av (.int _ _)) (.cons _ _ _ _ (Tn.av (.str _)) (.cons _ _ _ _ (Tn.av (ts_av (old_av ho2))) .nil)))) rfl) (.cons _ _ _ _ _ (TnCs.box (.cons _ _ _ _ (Tn.av (.int _ _)) (.cons _ _ _ _ (Tn.av (.int _ _)) (.cons _ _ _ _ (Tn.av (.str _)) (.cons _ _ _ _ (Tn.av (ts_av (old_av ho1))) .nil)))) rfl) (.cons _ _ _ _ _ (TnCs.box (.cons _ _ _ _ (Tn.av (.int _ _)) (.cons _ _ _ _ (Tn.av (.int _ _)) (.cons _ _ _ _ (Tn.av (.str _)) (.cons _ _ _ _ (Tn.av (ts_av (old_av ho0))) .nil)))) rfl) .nil))))))), ?_⟩
          refine mvR rfl rfl rfl rfl (ltb rfl) ?_
          refine run_ops_nil ?_
          refine run_sr ?_
          refine run_ld hG rfl rfl rfl rfl rfl (ltb rfl) ?_
          refine mvL rfl rfl rfl rfl (ltb rfl) ?_
          obtain ⟨r269, hg270, hM⟩ := bind_t hM
          refine run_callT rfl rfl rfl (ltb rfl) rfl rfl rfl rfl rfl hOn (fun x hx => by have := ((show Fr tk172 tk179 _ from (show Fr tk172 tk179 _ from hf183 rfl))).2 x hx; show S0.tk ≤ x; omega) (w_markTree_m k182 n182 s182 q182 f182 ks182 k265 _ (Fr.ge (show Fr tk172 tk179 _ from (show Fr tk172 tk179 _ from hf183 rfl)) (by omega)) ((show Fr tk172 tk179 _ from (show Fr tk172 tk179 _ from hf183 rfl))).1 hg270) (fun out S' hR (hle272 : tk262 ≤ S'.tk) => ?_)
          obtain ⟨ks273, k274, rfl, rfl, _, hst275, hln276, hu277⟩ := hR
          generalize S'.tk = tk271 at hle272 ⊢
          refine ⟨_, rfl, rfl, GT q182 f182 ks182 ks273, GT.turned (Fr.ge (show Fr tk172 tk179 _ from (show Fr tk172 tk179 _ from hf183 rfl)) (by omega)) hst275 hln276 hu277, [(3, .optr (.loc 3) 0 0), (4, .optr (.loc 4) 0 0), (5, .optr (.loc 5) 0 0), (6, .bool false), (8, .optr (.loc 8) 0 0), (9, .int .i64 i29), (11, .optr (.loc 11) 0 0), (12, .optr (.loc 12) 0 0), (13, .optr (.loc 13) 0 0), (14, .int .i64 ra194), (15, .int .i64 k265), (85, .agg [.int .i64 k175, .int .i64 n175, .str s175, .imm q175 4 f175 (cellss ks264)]), (86, .int .i64 k256), (87, .int .i64 k265), (88, .agg [.int .i64 k182, .int .i64 n182, .str s182, .imm q182 4 f182 (cellss ks273)]), (89, .int .i64 k265)], [(13, ⟨29, 4, true, [[.int .i64 k189, .int .i64 n189, .str s189, .imm q189 4 f189 (cellss ks189)]]⟩), (12, ⟨29, 4, true, [[.int .i64 k182, .int .i64 n182, .str s182, .imm q182 4 f182 (cellss ks273)]]⟩), (11, ⟨29, 4, true, [[.int .i64 k175, .int .i64 n175, .str s175, .imm q175 4 f175 (cellss ks264)]]⟩), (8, ⟨29, 4, true, [[.int .i64 i30, .int .i64 i31, .str t32, .imm q33 4 f33 (cellss ks33)]]⟩), (5, ⟨24, 4, true, [[.int .i64 k3, .int .i64 n3, .str s3, .imm q3 4 f3 (cellss ks3)]]⟩), (4, ⟨24, 4, true, [[.int .i64 k2, .int .i64 n2, .str s2, .imm q2 4 f2 (cellss ks2)]]⟩), (3, ⟨24, 4, true, [[.int .i64 k1, .int .i64 n1, .str s1, .imm q1 4 f1 (cellss ks1)]]⟩)], (.cons _ _ _ _ rfl (.optr _ _ _) (.cons _ _ _ _ rfl (.optr _ _ _) (.cons _ _ _ _ rfl (.optr _ _ _) (.cons _ _ _ _ rfl (Tn.av (.bool _)) (.cons _ _ _ _ rfl (.optr _ _ _) (.cons _ _ _ _ rfl (Tn.av (.int _ _)) (.cons _ _ _ _ rfl (.optr _ _ _) (.cons _ _ _ _ rfl (.optr _ _ _) (.cons _ _ _ _ rfl (.optr _ _ _) (.cons _ _ _ _ rfl (Tn.av (.int _ _)) (.cons _ _ _ _ rfl (Tn.av (.int _ _)) (.cons _ _ _ _ rfl (TnCs.agg (.cons _ _ _ _ (Tn.av (.int _ _)) (.cons _ _ _ _ (Tn.av (.int _ _)) (.cons _ _ _ _ (Tn.av (.str _)) (.cons _ _ _ _ (Tn.av (ts_av (fr_av (show Fr tk165 tk172 _ from ((show Fr tk165 tk172 _ from (show Fr tk165 tk172 _ from hf176 rfl))).ext hst266) (show Fr tk172 tk179 _ from (show Fr tk172 tk179 _ from hf183 rfl)) (by omega) (by omega)))) .nil)))) rfl) (.cons _ _ _ _ rfl (Tn.av (.int _ _)) (.cons _ _ _ _ rfl (Tn.av (.int _ _)) (.cons _ _ _ _ rfl (TnCs.agg (.cons _ _ _ _ (Tn.av (.int _ _)) (.cons _ _ _ _ (Tn.av (.int _ _)) (.cons _ _ _ _ (Tn.av (.str _)) (.cons _ _ _ _ (GT.tn hln276) .nil)))) rfl) (.cons _ _ _ _ rfl (Tn.av (.int _ _)) .nil)))))))))))))))), (.cons _ _ _ _ _ (TnCs.box (.cons _ _ _ _ (Tn.av (.int _ _)) (.cons _ _ _ _ (Tn.av (.int _ _)) (.cons _ _ _ _ (Tn.av (.str _)) (.cons _ _ _ _ (Tn.av (ts_av (fr_av (show Fr tk179 tk186 _ from (show Fr tk179 tk186 _ from hf190 rfl)) (show Fr tk172 tk179 _ from (show Fr tk172 tk179 _ from hf183 rfl)) (by omega) (by omega)))) .nil)))) rfl) (.cons _ _ _ _ _ (TnCs.box (.cons _ _ _ _ (Tn.av (.int _ _)) (.cons _ _ _ _ (Tn.av (.int _ _)) (.cons _ _ _ _ (Tn.av (.str _)) (.cons _ _ _ _ (GT.tn hln276) .nil)))) rfl) (.cons _ _ _ _ _ (TnCs.box (.cons _ _ _ _ (Tn.av (.int _ _)) (.cons _ _ _ _ (Tn.av (.int _ _)) (.cons _ _ _ _ (Tn.av (.str _)) (.cons _ _ _ _ (Tn.av (ts_av (fr_av (show Fr tk165 tk172 _ from ((show Fr tk165 tk172 _ from (show Fr tk165 tk172 _ from hf176 rfl))).ext hst266) (show Fr tk172 tk179 _ from (show Fr tk172 tk179 _ from hf183 rfl)) (by omega) (by omega)))) .nil)))) rfl) (.cons _ _ _ _ _ (TnCs.box (.cons _ _ _ _ (Tn.av (.int _ _)) (.cons _ _ _ _ (Tn.av (.int _ _)) (.cons _ _ _ _ (Tn.av (.str _)) (.cons _ _ _ _ (Tn.av (ts_av (fr_av (show Fr tk22 tkj28 _ from hfr34) (show Fr tk172 tk179 _ from (show Fr tk172 tk179 _ from hf183 rfl)) (by omega) (by omega)))) .nil)))) rfl) (.cons _ _ _ _ _ (TnCs.box (.cons _ _ _ _ (Tn.av (.int _ _)) (.cons _ _ _ _ (Tn.av (.int _ _)) (.cons _ _ _ _ (Tn.av (.str _)) (.cons _ _ _ _ (Tn.av (ts_av (old_av ho2))) .nil)))) rfl) (.cons _ _ _ _ _ (TnCs.box (.cons _ _ _ _ (Tn.av (.int _ _)) (.cons _ _ _ _ (Tn.av (.int _ _)) (.cons _ _ _ _ (Tn.av (.str _)) (.cons _ _ _ _ (Tn.av (ts_av (old_av ho1))) .nil)))) rfl) (.cons _ _ _ _ _ (TnCs.box (.cons _ _ _ _ (Tn.av (.int _ _)) (.cons _ _ _ _ (Tn.av (.int _ _)) (.cons _ _ _ _ (Tn.av (.str _)) (.cons _ _ _ _ (Tn.av (ts_av (old_av ho0))) .nil)))) rfl) .nil))))))), ?_⟩
          refine mvR rfl rfl rfl rfl (ltb rfl) ?_
          refine run_ops_nil ?_
          refine run_seq ?_
          refine run_sr ?_
          refine mvL rfl rfl rfl rfl (ltb rfl) ?_
          refine run_bin rfl rfl rfl rfl rfl rfl rfl (ltb rfl) ?_
          refine mvL rfl rfl rfl rfl (ltb rfl) ?_
          refine run_splitd (i := 93) rfl (fun hb278 => ?_) (fun hb278 => ?_)
          ·replace hM := ite_t hb278 hM
           refine run_off (on_of rfl rfl rfl rfl) rfl (ltb rfl) ?_
           refine run_off (on_of rfl rfl rfl rfl) rfl (ltb rfl) ?_
           refine run_off (on_of rfl rfl rfl rfl) rfl (ltb rfl) ?_
           refine run_off (on_of rfl rfl rfl rfl) rfl (ltb rfl) ?_
           refine run_pu rfl (pick_step rfl rfl rfl) rfl (ltb rfl) ?_
           refine mvL rfl rfl rfl rfl (ltb rfl) ?_
           refine run_off (on_of rfl rfl rfl rfl) rfl (ltb rfl) ?_
           refine run_off (on_of rfl rfl rfl rfl) rfl (ltb rfl) ?_
           refine run_off (on_of rfl rfl rfl rfl) rfl (ltb rfl) ?_
           refine run_pu rfl (pick_step rfl rfl rfl) rfl (ltb rfl) ?_
           refine run_ops_nil ?_
           refine run_sub_code (σ' := ⟨[(3, .optr (.loc 3) 0 0), (4, .optr (.loc 4) 0 0), (5, .optr (.loc 5) 0 0), (6, .bool false), (8, .optr (.loc 8) 0 0), (9, .int .i64 i29), (13, .optr (.loc 13) 0 0), (103, .bool true)], [(13, ⟨29, 4, true, [[.int .i64 k189, .int .i64 n189, .str s189, .imm q189 4 f189 (cellss ks189)]]⟩), (8, ⟨29, 4, true, [[.int .i64 i30, .int .i64 i31, .str t32, .imm q33 4 f33 (cellss ks33)]]⟩), (5, ⟨24, 4, true, [[.int .i64 k3, .int .i64 n3, .str s3, .imm q3 4 f3 (cellss ks3)]]⟩), (4, ⟨24, 4, true, [[.int .i64 k2, .int .i64 n2, .str s2, .imm q2 4 f2 (cellss ks2)]]⟩), (3, ⟨24, 4, true, [[.int .i64 k1, .int .i64 n1, .str s1, .imm q1 4 f1 (cellss ks1)]]⟩)], [], O, tk271⟩) (Sub.trans (Sub.drop (k := 12) rfl) (Sub.trans (Sub.drop (k := 11) rfl) (Sub.env _ ⟨rfl, rfl, rfl, rfl, rfl, rfl, rfl, rfl, trivial⟩))) ?_
           refine run_if rfl rfl (fun _ => ?_) (fun h => by cases h)
           refine run_sr ?_
           refine mvR rfl rfl rfl rfl (ltb rfl) ?_
           refine run_ops_nil ?_
           refine run_ret_to ?_
           obtain rfl := some_t hM
           refine fin_x hG rfl rfl rfl (v' := .bool false) (by rfl) ⟨rfl, (show tk ≤ tk271 by omega), _, rfl, rfl⟩
          ·replace hM := ite_f hb278 hM
           refine run_rdG (on_of rfl rfl rfl rfl) (aload_rd hG rfl rfl rfl (by first | (simp [ldok]; done) | exact List.not_mem_nil | trivial)) rfl (ltb rfl) ?_
           refine run_rdG (on_of rfl rfl rfl rfl) (aload_rd hG rfl rfl rfl (by first | (simp [ldok]; done) | exact List.not_mem_nil | trivial)) rfl (ltb rfl) ?_
           obtain ⟨r279, hg280, hM⟩ := bind_t hM
           refine run_callG (on_of rfl rfl rfl rfl) rfl rfl (ltb rfl) rfl rfl rfl (fun _ h => absurd h List.not_mem_nil) (w_eqTree_ok n k189 n189 s189 q189 f189 ks189 i30 i31 t32 q33 f33 ks33 hg280 _ _) (callK_retX (fun v tk281 (hle282 : tk271 ≤ tk281) h283 => ?_))
           subst h283
           refine run_puG (on_of rfl rfl rfl rfl) (aun_step rfl rfl rfl) rfl (ltb rfl) ?_
           refine run_pu rfl (pick_step rfl rfl rfl) rfl (ltb rfl) ?_
           refine mvL rfl rfl rfl rfl (ltb rfl) ?_
           refine run_splitb (i := 99) rfl (fun hb286 => ?_) (fun hb286 => ?_)
           ·replace hM := ite_t hb286 hM
            refine run_off (on_of rfl rfl rfl rfl) rfl (ltb rfl) ?_
            refine run_off (on_of rfl rfl rfl rfl) rfl (ltb rfl) ?_
            refine run_off (on_of rfl rfl rfl rfl) rfl (ltb rfl) ?_
            refine run_pu rfl (pick_step rfl rfl rfl) rfl (ltb rfl) ?_
            refine run_ops_nil ?_
            refine run_sub_code (σ' := ⟨[(3, .optr (.loc 3) 0 0), (4, .optr (.loc 4) 0 0), (5, .optr (.loc 5) 0 0), (6, .bool false), (8, .optr (.loc 8) 0 0), (9, .int .i64 i29), (13, .optr (.loc 13) 0 0), (103, .bool true)], [(13, ⟨29, 4, true, [[.int .i64 k189, .int .i64 n189, .str s189, .imm q189 4 f189 (cellss ks189)]]⟩), (8, ⟨29, 4, true, [[.int .i64 i30, .int .i64 i31, .str t32, .imm q33 4 f33 (cellss ks33)]]⟩), (5, ⟨24, 4, true, [[.int .i64 k3, .int .i64 n3, .str s3, .imm q3 4 f3 (cellss ks3)]]⟩), (4, ⟨24, 4, true, [[.int .i64 k2, .int .i64 n2, .str s2, .imm q2 4 f2 (cellss ks2)]]⟩), (3, ⟨24, 4, true, [[.int .i64 k1, .int .i64 n1, .str s1, .imm q1 4 f1 (cellss ks1)]]⟩)], [], O, tk281⟩) (Sub.trans (Sub.drop (k := 12) rfl) (Sub.trans (Sub.drop (k := 11) rfl) (Sub.env _ ⟨rfl, rfl, rfl, rfl, rfl, rfl, rfl, rfl, trivial⟩))) ?_
            refine run_if rfl rfl (fun _ => ?_) (fun h => by cases h)
            refine run_sr ?_
            refine mvR rfl rfl rfl rfl (ltb rfl) ?_
            refine run_ops_nil ?_
            refine run_ret_to ?_
            obtain rfl := some_t hM
            refine fin_x hG rfl rfl rfl (v' := .bool false) (by rfl) ⟨rfl, (show tk ≤ tk281 by omega), _, rfl, rfl⟩
           ·replace hM := ite_f hb286 hM
            refine run_puG (on_of rfl rfl rfl rfl) (move_step (.inl rfl) rfl) rfl (ltb rfl) ?_
            refine run_puG (on_of rfl rfl rfl rfl) (move_step (.inl rfl) rfl) rfl (ltb rfl) ?_
            refine run_puG (on_of rfl rfl rfl rfl) (abin_step rfl rfl rfl rfl (fun _ h => by cases h)) rfl (ltb rfl) ?_
            refine run_pu rfl (pick_step rfl rfl rfl) rfl (ltb rfl) ?_
            refine run_ops_nil ?_
            refine run_sub_code (σ' := ⟨[(3, .optr (.loc 3) 0 0), (4, .optr (.loc 4) 0 0), (5, .optr (.loc 5) 0 0), (6, .bool false), (8, .optr (.loc 8) 0 0), (9, .int .i64 i29), (13, .optr (.loc 13) 0 0), (103, .bool (ra194 != i29))], [(13, ⟨29, 4, true, [[.int .i64 k189, .int .i64 n189, .str s189, .imm q189 4 f189 (cellss ks189)]]⟩), (8, ⟨29, 4, true, [[.int .i64 i30, .int .i64 i31, .str t32, .imm q33 4 f33 (cellss ks33)]]⟩), (5, ⟨24, 4, true, [[.int .i64 k3, .int .i64 n3, .str s3, .imm q3 4 f3 (cellss ks3)]]⟩), (4, ⟨24, 4, true, [[.int .i64 k2, .int .i64 n2, .str s2, .imm q2 4 f2 (cellss ks2)]]⟩), (3, ⟨24, 4, true, [[.int .i64 k1, .int .i64 n1, .str s1, .imm q1 4 f1 (cellss ks1)]]⟩)], [], O, tk281⟩) (Sub.trans (Sub.drop (k := 12) rfl) (Sub.trans (Sub.drop (k := 11) rfl) (Sub.env _ ⟨rfl, rfl, rfl, rfl, rfl, rfl, rfl, rfl, trivial⟩))) ?_
            refine run_ifb rfl rfl (fun hb287 => ?_) (fun hb287 => ?_)
            ·replace hM := ite_t hb287 hM
             refine run_sr ?_
             refine mvR rfl rfl rfl rfl (ltb rfl) ?_
             refine run_ops_nil ?_
             refine run_ret_to ?_
             obtain rfl := some_t hM
             refine fin_x hG rfl rfl rfl (v' := .bool false) (by rfl) ⟨rfl, (show tk ≤ tk281 by omega), _, rfl, rfl⟩
            ·replace hM := ite_f hb287 hM
             refine run_skip ?_
             refine run_sr ?_
             refine mvR rfl rfl rfl rfl (ltb rfl) ?_
             refine run_ops_nil ?_
             refine run_sr ?_
             refine run_ld hG rfl rfl rfl rfl rfl (ltb rfl) ?_
             refine mvL rfl rfl rfl rfl (ltb rfl) ?_
             obtain ⟨r288, hg289, hM⟩ := bind_t hM
             refine run_callT rfl rfl rfl (ltb rfl) rfl rfl rfl rfl rfl hOn (fun x hx => by have := ((show Fr tk179 tk186 _ from (show Fr tk179 tk186 _ from hf190 rfl))).2 x hx; show S0.tk ≤ x; omega) (w_markTree_m k189 n189 s189 q189 f189 ks189 1 _ (Fr.ge (show Fr tk179 tk186 _ from (show Fr tk179 tk186 _ from hf190 rfl)) (by omega)) ((show Fr tk179 tk186 _ from (show Fr tk179 tk186 _ from hf190 rfl))).1 hg289) (fun out S' hR (hle291 : tk281 ≤ S'.tk) => ?_)
             obtain ⟨ks292, k293, rfl, rfl, _, hst294, hln295, hu296⟩ := hR
             generalize S'.tk = tk290 at hle291 ⊢
             refine ⟨_, rfl, rfl, GT q189 f189 ks189 ks292, GT.turned (Fr.ge (show Fr tk179 tk186 _ from (show Fr tk179 tk186 _ from hf190 rfl)) (by omega)) hst294 hln295 hu296, [(3, .optr (.loc 3) 0 0), (4, .optr (.loc 4) 0 0), (5, .optr (.loc 5) 0 0), (6, .bool false), (8, .optr (.loc 8) 0 0), (9, .int .i64 i29), (13, .optr (.loc 13) 0 0), (103, .bool (ra194 != i29)), (16, .int .i64 1), (104, .agg [.int .i64 k189, .int .i64 n189, .str s189, .imm q189 4 f189 (cellss ks292)]), (105, .int .i64 1)], [(13, ⟨29, 4, true, [[.int .i64 k189, .int .i64 n189, .str s189, .imm q189 4 f189 (cellss ks292)]]⟩), (8, ⟨29, 4, true, [[.int .i64 i30, .int .i64 i31, .str t32, .imm q33 4 f33 (cellss ks33)]]⟩), (5, ⟨24, 4, true, [[.int .i64 k3, .int .i64 n3, .str s3, .imm q3 4 f3 (cellss ks3)]]⟩), (4, ⟨24, 4, true, [[.int .i64 k2, .int .i64 n2, .str s2, .imm q2 4 f2 (cellss ks2)]]⟩), (3, ⟨24, 4, true, [[.int .i64 k1, .int .i64 n1, .str s1, .imm q1 4 f1 (cellss ks1)]]⟩)], (.cons _ _ _ _ rfl (.optr _ _ _) (.cons _ _ _ _ rfl (.optr _ _ _) (.cons _ _ _ _ rfl (.optr _ _ _) (.cons _ _ _ _ rfl (Tn.av (.bool _)) (.cons _ _ _ _ rfl (.optr _ _ _) (.cons _ _ _ _ rfl (Tn.av (.int _ _)) (.cons _ _ _ _ rfl (.optr _ _ _) (.cons _ _ _ _ rfl (Tn.av (.bool _)) (.cons _ _ _ _ rfl (Tn.av (.int _ _)) (.cons _ _ _ _ rfl (TnCs.agg (.cons _ _ _ _ (Tn.av (.int _ _)) (.cons _ _ _ _ (Tn.av (.int _ _)) (.cons _ _ _ _ (Tn.av (.str _)) (.cons _ _ _ _ (GT.tn hln295) .nil)))) rfl) (.cons _ _ _ _ rfl (Tn.av (.int _ _)) .nil))))))))))), (.cons _ _ _ _ _ (TnCs.box (.cons _ _ _ _ (Tn.av (.int _ _)) (.cons _ _ _ _ (Tn.av (.int _ _)) (.cons _ _ _ _ (Tn.av (.str _)) (.cons _ _ _ _ (GT.tn hln295) .nil)))) rfl) (.cons _ _ _ _ _ (TnCs.box (.cons _ _ _ _ (Tn.av (.int _ _)) (.cons _ _ _ _ (Tn.av (.int _ _)) (.cons _ _ _ _ (Tn.av (.str _)) (.cons _ _ _ _ (Tn.av (ts_av (fr_av (show Fr tk22 tkj28 _ from hfr34) (show Fr tk179 tk186 _ from (show Fr tk179 tk186 _ from hf190 rfl)) (by omega) (by omega)))) .nil)))) rfl) (.cons _ _ _ _ _ (TnCs.box (.cons _ _ _ _ (Tn.av (.int _ _)) (.cons _ _ _ _ (Tn.av (.int _ _)) (.cons _ _ _ _ (Tn.av (.str _)) (.cons _ _ _ _ (Tn.av (ts_av (old_av ho2))) .nil)))) rfl) (.cons _ _ _ _ _ (TnCs.box (.cons _ _ _ _ (Tn.av (.int _ _)) (.cons _ _ _ _ (Tn.av (.int _ _)) (.cons _ _ _ _ (Tn.av (.str _)) (.cons _ _ _ _ (Tn.av (ts_av (old_av ho1))) .nil)))) rfl) (.cons _ _ _ _ _ (TnCs.box (.cons _ _ _ _ (Tn.av (.int _ _)) (.cons _ _ _ _ (Tn.av (.int _ _)) (.cons _ _ _ _ (Tn.av (.str _)) (.cons _ _ _ _ (Tn.av (ts_av (old_av ho0))) .nil)))) rfl) .nil))))), ?_⟩
             refine mvR rfl rfl rfl rfl (ltb rfl) ?_
             refine run_ops_nil ?_
             refine run_sr ?_
             refine mvR rfl rfl rfl rfl (ltb rfl) ?_
             refine run_ops_nil ?_
             refine run_sr ?_
             refine run_ld hG rfl rfl rfl rfl rfl (ltb rfl) ?_
             refine mvL rfl rfl rfl rfl (ltb rfl) ?_
             obtain ⟨r297, hg298, hM⟩ := bind_t hM
             refine run_call rfl rfl rfl (ltb rfl) rfl rfl rfl (fun _ h => absurd h List.not_mem_nil) (w_heldTree_ok n k189 n189 s189 q189 f189 ks292 1 hg298 _ _) (callK_retX (fun v tk299 (hle300 : tk290 ≤ tk299) h301 => ?_))
             subst h301
             refine mvR rfl rfl rfl rfl (ltb rfl) ?_
             refine run_ops_nil ?_
             refine run_seq ?_
             refine run_sr ?_
             refine mvL rfl rfl rfl rfl (ltb rfl) ?_
             refine run_bin rfl rfl rfl rfl rfl rfl rfl (ltb rfl) ?_
             refine run_ops_nil ?_
             refine run_ifd rfl rfl (fun hb304 => ?_) (fun hb304 => ?_)
             ·replace hM := ite_t hb304 hM
              refine run_sr ?_
              refine mvR rfl rfl rfl rfl (ltb rfl) ?_
              refine run_ops_nil ?_
              refine run_ret_to ?_
              obtain rfl := some_t hM
              refine fin_x hG rfl rfl rfl (v' := .bool false) (by rfl) ⟨rfl, (show tk ≤ tk299 by omega), _, rfl, rfl⟩
             ·replace hM := ite_f hb304 hM
              refine run_skip ?_
              refine run_seq ?_
              refine run_sr ?_
              refine mvL rfl rfl rfl rfl (ltb rfl) ?_
              refine mvL rfl rfl rfl rfl (ltb rfl) ?_
              refine run_bin rfl rfl rfl rfl rfl rfl rfl (ltb rfl) ?_
              refine run_ops_nil ?_
              refine run_sub_code (σ' := ⟨[(3, .optr (.loc 3) 0 0), (4, .optr (.loc 4) 0 0), (5, .optr (.loc 5) 0 0), (6, .bool false), (8, .optr (.loc 8) 0 0), (9, .int .i64 i29), (13, .optr (.loc 13) 0 0), (16, .int .i64 k293), (17, .int .i64 r297), (114, .bool (r297 != k293))], [(13, ⟨29, 4, true, [[.int .i64 k189, .int .i64 n189, .str s189, .imm q189 4 f189 (cellss ks292)]]⟩), (8, ⟨29, 4, true, [[.int .i64 i30, .int .i64 i31, .str t32, .imm q33 4 f33 (cellss ks33)]]⟩), (5, ⟨24, 4, true, [[.int .i64 k3, .int .i64 n3, .str s3, .imm q3 4 f3 (cellss ks3)]]⟩), (4, ⟨24, 4, true, [[.int .i64 k2, .int .i64 n2, .str s2, .imm q2 4 f2 (cellss ks2)]]⟩), (3, ⟨24, 4, true, [[.int .i64 k1, .int .i64 n1, .str s1, .imm q1 4 f1 (cellss ks1)]]⟩)], [], O, tk299⟩) (Sub.env _ ⟨rfl, rfl, rfl, rfl, rfl, rfl, rfl, rfl, rfl, rfl, trivial⟩) ?_
              refine run_ifb rfl rfl (fun hb305 => ?_) (fun hb305 => ?_)
              ·replace hM := ite_t hb305 hM
               refine run_sr ?_
               refine mvR rfl rfl rfl rfl (ltb rfl) ?_
               refine run_ops_nil ?_
               refine run_ret_to ?_
               obtain rfl := some_t hM
               refine fin_x hG rfl rfl rfl (v' := .bool false) (by rfl) ⟨rfl, (show tk ≤ tk299 by omega), _, rfl, rfl⟩
              ·replace hM := ite_f hb305 hM
               refine run_skip ?_
               refine run_seq ?_
               obtain ⟨j306, hj460, hM⟩ := jn_t hM
               refine run_cutL [.code _] (fun σ' => ∃ (i307 : Int) (i308 : Int) (i309 : Int) (t310 : ByteArray) (q311 : Nat) (f311 : Bool) (ks311 : List LT) (tkj306 : Nat), tk299 ≤ tkj306 ∧ Fr tk299 tkj306 (tstoks q311 ks311) ∧ j306 i307 i308 i309 t310 (ers ks311) = some r ∧ Sub ⟨Go.Proofs.Tryd.prog, S0, Go.Proofs.Tryd.f4.ntmps, [], fun _ => False, []⟩ σ' ⟨[(6, .bool false), (8, .optr (.loc 8) 0 0), (9, .int .i64 i29), (13, .optr (.loc 13) 0 0), (16, .int .i64 k293), (17, .int .i64 r297), (18, .optr (.loc 18) 0 0), (19, .int .i64 i307)], [(18, ⟨29, 4, true, [[.int .i64 i308, .int .i64 i309, .str t310, .imm q311 4 f311 (cellss ks311)]]⟩), (13, ⟨29, 4, true, [[.int .i64 k189, .int .i64 n189, .str s189, .imm q189 4 f189 (cellss ks292)]]⟩), (8, ⟨29, 4, true, [[.int .i64 i30, .int .i64 i31, .str t32, .imm q33 4 f33 (cellss ks33)]]⟩), (5, ⟨24, 4, true, [[.int .i64 k3, .int .i64 n3, .str s3, .imm q3 4 f3 (cellss ks3)]]⟩), (4, ⟨24, 4, true, [[.int .i64 k2, .int .i64 n2, .str s2, .imm q2 4 f2 (cellss ks2)]]⟩), (3, ⟨24, 4, true, [[.int .i64 k1, .int .i64 n1, .str s1, .imm q1 4 f1 (cellss ks1)]]⟩)], [], O, tkj306⟩) rfl ?_ ?_
               ·refine run_draw [] (n := 13) mixed rfl (fun _ h => absurd h List.not_mem_nil) ?_
                refine AAny.take (i := 0) rfl (by kernel_rfl) (by kernel_rfl) (by kernel_rfl) rfl rfl (ltb rfl) (aload_rd hG rfl rfl rfl (by first | (simp [ldok]; done) | exact List.not_mem_nil | trivial)) ?_
                refine AAny.take (i := 2) rfl (by kernel_rfl) (by kernel_rfl) (by kernel_rfl) rfl rfl (ltb rfl) (aload_rd hG rfl rfl rfl (by first | (simp [ldok]; done) | exact List.not_mem_nil | trivial)) ?_
                refine AAny.take (i := 4) rfl (by kernel_rfl) (by kernel_rfl) (by kernel_rfl) rfl rfl (ltb rfl) (aload_rd hG rfl rfl rfl (by first | (simp [ldok]; done) | exact List.not_mem_nil | trivial)) ?_
                refine AAny.eachN (rs := [1, 10]) (by kernel_rfl) (fun h => by cases h) (fun i hi => ?_)
                simp only [List.mem_cons, List.not_mem_nil, or_false] at hi
                rcases hi with rfl | rfl
                ·refine AOpN.of ?_
                 obtain ⟨r313, hg314, hM⟩ := bind_t hM
                 refine AOp.call rfl rfl rfl rfl (ltb rfl) rfl rfl rfl (fun _ h => absurd h List.not_mem_nil) (fun _ h => absurd h List.not_mem_nil) (w_toTree_ok n k1 n1 s1 q1 f1 ks1 hg314 _ _) (callK_retX (fun v tk315 (hle316 : tk299 ≤ tk315) h317 => ?_))
                 obtain ⟨k318, n318, s318, q318, f318, ks318, rfl, rfl, hf319⟩ := h317
                 refine AAny.eachN (rs := [3, 10]) (by kernel_rfl) (fun h => by cases h) (fun i hi => ?_)
                 simp only [List.mem_cons, List.not_mem_nil, or_false] at hi
                 rcases hi with rfl | rfl
                 ·refine AOpN.of ?_
                  obtain ⟨r320, hg321, hM⟩ := bind_t hM
                  refine AOp.call rfl rfl rfl rfl (ltb rfl) rfl rfl rfl (fun _ h => absurd h List.not_mem_nil) (fun _ h => absurd h List.not_mem_nil) (w_toTree_ok n k2 n2 s2 q2 f2 ks2 hg321 _ _) (callK_retX (fun v tk322 (hle323 : tk315 ≤ tk322) h324 => ?_))
                  obtain ⟨k325, n325, s325, q325, f325, ks325, rfl, rfl, hf326⟩ := h324
                  refine AAny.eachN (rs := [5, 10]) (by kernel_rfl) (fun h => by cases h) (fun i hi => ?_)
                  simp only [List.mem_cons, List.not_mem_nil, or_false] at hi
                  rcases hi with rfl | rfl
                  ·refine AOpN.of ?_
                   obtain ⟨r327, hg328, hM⟩ := bind_t hM
                   refine AOp.call rfl rfl rfl rfl (ltb rfl) rfl rfl rfl (fun _ h => absurd h List.not_mem_nil) (fun _ h => absurd h List.not_mem_nil) (w_toTree_ok n k3 n3 s3 q3 f3 ks3 hg328 _ _) (callK_retX (fun v tk329 (hle330 : tk322 ≤ tk329) h331 => ?_))
                   obtain ⟨k332, n332, s332, q332, f332, ks332, rfl, rfl, hf333⟩ := h331
                   refine AAny.eachN (rs := [6, 10]) (by kernel_rfl) (fun h => by cases h) (fun i hi => ?_)
                   simp only [List.mem_cons, List.not_mem_nil, or_false] at hi
                   rcases hi with rfl | rfl
                   ·refine AOpN.of ?_
                    obtain ⟨r334, hg335, hM⟩ := bind_t hM
                    refine AOp.call rfl rfl rfl rfl (ltb rfl) rfl rfl rfl (fun _ h => absurd h List.not_mem_nil) (fun _ h => absurd h List.not_mem_nil) (i_Subst_ok n k318 n318 s318 q318 f318 ks318 k325 n325 s325 q325 f325 ks325 k332 n332 s332 q332 f332 ks332 hg335 _ _) (callK_retX (fun v tk336 (hle337 : tk329 ≤ tk336) h338 => ?_))
                    obtain ⟨ra343, ra344, va345, va346, rfl, rfl, ⟨k339, n339, s339, q339, f339, ks339, rfl, rfl, hf340⟩, rfl⟩ := h338
                    refine AAny.take (i := 7) rfl (by kernel_rfl) (by kernel_rfl) (by kernel_rfl) rfl rfl (ltb rfl) ((move_step (.inl rfl) rfl).rd _) ?_
                    refine AAny.take (i := 8) rfl (by kernel_rfl) (by kernel_rfl) (by kernel_rfl) rfl rfl (ltb rfl) ((extract_step rfl rfl rfl).rd _) ?_
                    refine AAny.take (i := 9) rfl (by kernel_rfl) (by kernel_rfl) (by kernel_rfl) rfl rfl (ltb rfl) ((extract_step rfl rfl rfl).rd _) ?_
                    refine AAny.eachN (rs := [10]) (by kernel_rfl) (fun h => by cases h) (fun i hi => ?_)
                    simp only [List.mem_cons, List.not_mem_nil, or_false] at hi
                    subst hi
                    ·refine AOpN.alloc hG rfl rfl rfl (ltb rfl) rfl rfl rfl ?_
                     refine AAny.one (i := 11) (by kernel_rfl) (AOp.step0 rfl rfl rfl (store_step hG rfl rfl rfl rfl rfl rfl rfl rfl) (by intro x hx; have hx : x ∈ [ID.loc 18] := hx; simp only [List.mem_cons, List.not_mem_nil, or_false] at hx; subst hx; simp) ?_)
                     refine AAny.take (i := 12) rfl (by kernel_rfl) (by kernel_rfl) (by kernel_rfl) rfl rfl (ltb rfl) ((move_step (.inr rfl) rfl).rd _) ?_
                     refine AAny.done (by kernel_rfl) ?_
                     exact ⟨ra344, k339, n339, s339, q339, f339, ks339, tk336, (show tk299 ≤ tk336 by omega), (show Fr tk299 tk336 _ from ((show Fr tk329 tk336 _ from hf340 rfl)).mono (by omega) (by omega)), hM, Sub.env [(6, .bool false), (8, .optr (.loc 8) 0 0), (9, .int .i64 i29), (13, .optr (.loc 13) 0 0), (16, .int .i64 k293), (17, .int .i64 r297), (18, .optr (.loc 18) 0 0), (19, .int .i64 ra344)] ⟨rfl, rfl, rfl, rfl, rfl, rfl, rfl, rfl, trivial⟩⟩
                   ·refine AOpN.alloc hG rfl rfl rfl (ltb rfl) rfl rfl rfl ?_
                    obtain ⟨r347, hg348, hM⟩ := bind_t hM
                    refine AAny.one (i := 6) (by kernel_rfl) (AOp.call rfl rfl rfl rfl (ltb rfl) rfl rfl rfl (fun _ h => absurd h List.not_mem_nil) (fun _ h => absurd h List.not_mem_nil) (i_Subst_ok n k318 n318 s318 q318 f318 ks318 k325 n325 s325 q325 f325 ks325 k332 n332 s332 q332 f332 ks332 hg348 _ _) (callK_retX (fun v tk349 (hle350 : tk329 ≤ tk349) h351 => ?_)))
                    obtain ⟨ra356, ra357, va358, va359, rfl, rfl, ⟨k352, n352, s352, q352, f352, ks352, rfl, rfl, hf353⟩, rfl⟩ := h351
                    refine AAny.take (i := 7) rfl (by kernel_rfl) (by kernel_rfl) (by kernel_rfl) rfl rfl (ltb rfl) ((move_step (.inl rfl) rfl).rd _) ?_
                    refine AAny.take (i := 8) rfl (by kernel_rfl) (by kernel_rfl) (by kernel_rfl) rfl rfl (ltb rfl) ((extract_step rfl rfl rfl).rd _) ?_
                    refine AAny.take (i := 9) rfl (by kernel_rfl) (by kernel_rfl) (by kernel_rfl) rfl rfl (ltb rfl) ((extract_step rfl rfl rfl).rd _) ?_
                    refine AAny.one (i := 11) (by kernel_rfl) (AOp.step0 rfl rfl rfl (store_step hG rfl rfl rfl rfl rfl rfl rfl rfl) (by intro x hx; have hx : x ∈ [ID.loc 18] := hx; simp only [List.mem_cons, List.not_mem_nil, or_false] at hx; subst hx; simp) ?_)
                    refine AAny.take (i := 12) rfl (by kernel_rfl) (by kernel_rfl) (by kernel_rfl) rfl rfl (ltb rfl) ((move_step (.inr rfl) rfl).rd _) ?_
                    refine AAny.done (by kernel_rfl) ?_
                    exact ⟨ra357, k352, n352, s352, q352, f352, ks352, tk349, (show tk299 ≤ tk349 by omega), (show Fr tk299 tk349 _ from ((show Fr tk329 tk349 _ from hf353 rfl)).mono (by omega) (by omega)), hM, Sub.env [(6, .bool false), (8, .optr (.loc 8) 0 0), (9, .int .i64 i29), (13, .optr (.loc 13) 0 0), (16, .int .i64 k293), (17, .int .i64 r297), (18, .optr (.loc 18) 0 0), (19, .int .i64 ra357)] ⟨rfl, rfl, rfl, rfl, rfl, rfl, rfl, rfl, trivial⟩⟩
                  ·refine AOpN.alloc hG rfl rfl rfl (ltb rfl) rfl rfl rfl ?_
                   obtain ⟨r360, hg361, hM⟩ := bind_t hM
                   refine AAny.one (i := 5) (by kernel_rfl) (AOp.call rfl rfl rfl rfl (ltb rfl) rfl rfl rfl (fun _ h => absurd h List.not_mem_nil) (fun _ h => absurd h List.not_mem_nil) (w_toTree_ok n k3 n3 s3 q3 f3 ks3 hg361 _ _) (callK_retX (fun v tk362 (hle363 : tk322 ≤ tk362) h364 => ?_)))
                   obtain ⟨k365, n365, s365, q365, f365, ks365, rfl, rfl, hf366⟩ := h364
                   obtain ⟨r367, hg368, hM⟩ := bind_t hM
                   refine AAny.one (i := 6) (by kernel_rfl) (AOp.call rfl rfl rfl rfl (ltb rfl) rfl rfl rfl (fun _ h => absurd h List.not_mem_nil) (fun _ h => absurd h List.not_mem_nil) (i_Subst_ok n k318 n318 s318 q318 f318 ks318 k325 n325 s325 q325 f325 ks325 k365 n365 s365 q365 f365 ks365 hg368 _ _) (callK_retX (fun v tk369 (hle370 : tk362 ≤ tk369) h371 => ?_)))
                   obtain ⟨ra376, ra377, va378, va379, rfl, rfl, ⟨k372, n372, s372, q372, f372, ks372, rfl, rfl, hf373⟩, rfl⟩ := h371
                   refine AAny.take (i := 7) rfl (by kernel_rfl) (by kernel_rfl) (by kernel_rfl) rfl rfl (ltb rfl) ((move_step (.inl rfl) rfl).rd _) ?_
                   refine AAny.take (i := 8) rfl (by kernel_rfl) (by kernel_rfl) (by kernel_rfl) rfl rfl (ltb rfl) ((extract_step rfl rfl rfl).rd _) ?_
                   refine AAny.take (i := 9) rfl (by kernel_rfl) (by kernel_rfl) (by kernel_rfl) rfl rfl (ltb rfl) ((extract_step rfl rfl rfl).rd _) ?_
                   refine AAny.one (i := 11) (by kernel_rfl) (AOp.step0 rfl rfl rfl (store_step hG rfl rfl rfl rfl rfl rfl rfl rfl) (by intro x hx; have hx : x ∈ [ID.loc 18] := hx; simp only [List.mem_cons, List.not_mem_nil, or_false] at hx; subst hx; simp) ?_)
                   refine AAny.take (i := 12) rfl (by kernel_rfl) (by kernel_rfl) (by kernel_rfl) rfl rfl (ltb rfl) ((move_step (.inr rfl) rfl).rd _) ?_
                   refine AAny.done (by kernel_rfl) ?_
                   exact ⟨ra377, k372, n372, s372, q372, f372, ks372, tk369, (show tk299 ≤ tk369 by omega), (show Fr tk299 tk369 _ from ((show Fr tk362 tk369 _ from hf373 rfl)).mono (by omega) (by omega)), hM, Sub.env [(6, .bool false), (8, .optr (.loc 8) 0 0), (9, .int .i64 i29), (13, .optr (.loc 13) 0 0), (16, .int .i64 k293), (17, .int .i64 r297), (18, .optr (.loc 18) 0 0), (19, .int .i64 ra377)] ⟨rfl, rfl, rfl, rfl, rfl, rfl, rfl, rfl, trivial⟩⟩
                 ·refine AOpN.alloc hG rfl rfl rfl (ltb rfl) rfl rfl rfl ?_
                  obtain ⟨r380, hg381, hM⟩ := bind_t hM
                  refine AAny.one (i := 3) (by kernel_rfl) (AOp.call rfl rfl rfl rfl (ltb rfl) rfl rfl rfl (fun _ h => absurd h List.not_mem_nil) (fun _ h => absurd h List.not_mem_nil) (w_toTree_ok n k2 n2 s2 q2 f2 ks2 hg381 _ _) (callK_retX (fun v tk382 (hle383 : tk315 ≤ tk382) h384 => ?_)))
                  obtain ⟨k385, n385, s385, q385, f385, ks385, rfl, rfl, hf386⟩ := h384
                  obtain ⟨r387, hg388, hM⟩ := bind_t hM
                  refine AAny.one (i := 5) (by kernel_rfl) (AOp.call rfl rfl rfl rfl (ltb rfl) rfl rfl rfl (fun _ h => absurd h List.not_mem_nil) (fun _ h => absurd h List.not_mem_nil) (w_toTree_ok n k3 n3 s3 q3 f3 ks3 hg388 _ _) (callK_retX (fun v tk389 (hle390 : tk382 ≤ tk389) h391 => ?_)))
                  obtain ⟨k392, n392, s392, q392, f392, ks392, rfl, rfl, hf393⟩ := h391
                  obtain ⟨r394, hg395, hM⟩ := bind_t hM
                  refine AAny.one (i := 6) (by kernel_rfl) (AOp.call rfl rfl rfl rfl (ltb rfl) rfl rfl rfl (fun _ h => absurd h List.not_mem_nil) (fun _ h => absurd h List.not_mem_nil) (i_Subst_ok n k318 n318 s318 q318 f318 ks318 k385 n385 s385 q385 f385 ks385 k392 n392 s392 q392 f392 ks392 hg395 _ _) (callK_retX (fun v tk396 (hle397 : tk389 ≤ tk396) h398 => ?_)))
                  obtain ⟨ra403, ra404, va405, va406, rfl, rfl, ⟨k399, n399, s399, q399, f399, ks399, rfl, rfl, hf400⟩, rfl⟩ := h398
                  refine AAny.take (i := 7) rfl (by kernel_rfl) (by kernel_rfl) (by kernel_rfl) rfl rfl (ltb rfl) ((move_step (.inl rfl) rfl).rd _) ?_
                  refine AAny.take (i := 8) rfl (by kernel_rfl) (by kernel_rfl) (by kernel_rfl) rfl rfl (ltb rfl) ((extract_step rfl rfl rfl).rd _) ?_
                  refine AAny.take (i := 9) rfl (by kernel_rfl) (by kernel_rfl) (by kernel_rfl) rfl rfl (ltb rfl) ((extract_step rfl rfl rfl).rd _) ?_
                  refine AAny.one (i := 11) (by kernel_rfl) (AOp.step0 rfl rfl rfl (store_step hG rfl rfl rfl rfl rfl rfl rfl rfl) (by intro x hx; have hx : x ∈ [ID.loc 18] := hx; simp only [List.mem_cons, List.not_mem_nil, or_false] at hx; subst hx; simp) ?_)
                  refine AAny.take (i := 12) rfl (by kernel_rfl) (by kernel_rfl) (by kernel_rfl) rfl rfl (ltb rfl) ((move_step (.inr rfl) rfl).rd _) ?_
                  refine AAny.done (by kernel_rfl) ?_
                  exact ⟨ra404, k399, n399, s399, q399, f399, ks399, tk396, (show tk299 ≤ tk396 by omega), (show Fr tk299 tk396 _ from ((show Fr tk389 tk396 _ from hf400 rfl)).mono (by omega) (by omega)), hM, Sub.env [(6, .bool false), (8, .optr (.loc 8) 0 0), (9, .int .i64 i29), (13, .optr (.loc 13) 0 0), (16, .int .i64 k293), (17, .int .i64 r297), (18, .optr (.loc 18) 0 0), (19, .int .i64 ra404)] ⟨rfl, rfl, rfl, rfl, rfl, rfl, rfl, rfl, trivial⟩⟩
                ·refine AOpN.alloc hG rfl rfl rfl (ltb rfl) rfl rfl rfl ?_
                 obtain ⟨r407, hg408, hM⟩ := bind_t hM
                 refine AAny.one (i := 1) (by kernel_rfl) (AOp.call rfl rfl rfl rfl (ltb rfl) rfl rfl rfl (fun _ h => absurd h List.not_mem_nil) (fun _ h => absurd h List.not_mem_nil) (w_toTree_ok n k1 n1 s1 q1 f1 ks1 hg408 _ _) (callK_retX (fun v tk409 (hle410 : tk299 ≤ tk409) h411 => ?_)))
                 obtain ⟨k412, n412, s412, q412, f412, ks412, rfl, rfl, hf413⟩ := h411
                 obtain ⟨r414, hg415, hM⟩ := bind_t hM
                 refine AAny.one (i := 3) (by kernel_rfl) (AOp.call rfl rfl rfl rfl (ltb rfl) rfl rfl rfl (fun _ h => absurd h List.not_mem_nil) (fun _ h => absurd h List.not_mem_nil) (w_toTree_ok n k2 n2 s2 q2 f2 ks2 hg415 _ _) (callK_retX (fun v tk416 (hle417 : tk409 ≤ tk416) h418 => ?_)))
                 obtain ⟨k419, n419, s419, q419, f419, ks419, rfl, rfl, hf420⟩ := h418
                 obtain ⟨r421, hg422, hM⟩ := bind_t hM
                 refine AAny.one (i := 5) (by kernel_rfl) (AOp.call rfl rfl rfl rfl (ltb rfl) rfl rfl rfl (fun _ h => absurd h List.not_mem_nil) (fun _ h => absurd h List.not_mem_nil) (w_toTree_ok n k3 n3 s3 q3 f3 ks3 hg422 _ _) (callK_retX (fun v tk423 (hle424 : tk416 ≤ tk423) h425 => ?_)))
                 obtain ⟨k426, n426, s426, q426, f426, ks426, rfl, rfl, hf427⟩ := h425
                 obtain ⟨r428, hg429, hM⟩ := bind_t hM
                 refine AAny.one (i := 6) (by kernel_rfl) (AOp.call rfl rfl rfl rfl (ltb rfl) rfl rfl rfl (fun _ h => absurd h List.not_mem_nil) (fun _ h => absurd h List.not_mem_nil) (i_Subst_ok n k412 n412 s412 q412 f412 ks412 k419 n419 s419 q419 f419 ks419 k426 n426 s426 q426 f426 ks426 hg429 _ _) (callK_retX (fun v tk430 (hle431 : tk423 ≤ tk430) h432 => ?_)))
                 obtain ⟨ra437, ra438, va439, va440, rfl, rfl, ⟨k433, n433, s433, q433, f433, ks433, rfl, rfl, hf434⟩, rfl⟩ := h432
                 refine AAny.take (i := 7) rfl (by kernel_rfl) (by kernel_rfl) (by kernel_rfl) rfl rfl (ltb rfl) ((move_step (.inl rfl) rfl).rd _) ?_
                 refine AAny.take (i := 8) rfl (by kernel_rfl) (by kernel_rfl) (by kernel_rfl) rfl rfl (ltb rfl) ((extract_step rfl rfl rfl).rd _) ?_
                 refine AAny.take (i := 9) rfl (by kernel_rfl) (by kernel_rfl) (by kernel_rfl) rfl rfl (ltb rfl) ((extract_step rfl rfl rfl).rd _) ?_
                 refine AAny.one (i := 11) (by kernel_rfl) (AOp.step0 rfl rfl rfl (store_step hG rfl rfl rfl rfl rfl rfl rfl rfl) (by intro x hx; have hx : x ∈ [ID.loc 18] := hx; simp only [List.mem_cons, List.not_mem_nil, or_false] at hx; subst hx; simp) ?_)
                 refine AAny.take (i := 12) rfl (by kernel_rfl) (by kernel_rfl) (by kernel_rfl) rfl rfl (ltb rfl) ((move_step (.inr rfl) rfl).rd _) ?_
                 refine AAny.done (by kernel_rfl) ?_
                 exact ⟨ra438, k433, n433, s433, q433, f433, ks433, tk430, (show tk299 ≤ tk430 by omega), (show Fr tk299 tk430 _ from ((show Fr tk423 tk430 _ from hf434 rfl)).mono (by omega) (by omega)), hM, Sub.env [(6, .bool false), (8, .optr (.loc 8) 0 0), (9, .int .i64 i29), (13, .optr (.loc 13) 0 0), (16, .int .i64 k293), (17, .int .i64 r297), (18, .optr (.loc 18) 0 0), (19, .int .i64 ra438)] ⟨rfl, rfl, rfl, rfl, rfl, rfl, rfl, rfl, trivial⟩⟩
               ·clear hM
                rintro σ' ⟨i307, i308, i309, t310, q311, f311, ks311, tkj306, hle459, hfr312, hM, hsub⟩
                rw [hj460] at hM
                clear hj460
                refine run_sub_code hsub ?_
                refine run_seq ?_
                refine run_sr ?_
                refine run_ld hG rfl rfl rfl rfl rfl (ltb rfl) ?_
                refine run_ld hG rfl rfl rfl rfl rfl (ltb rfl) ?_
                obtain ⟨r441, hg442, hM⟩ := bind_t hM
                refine run_call rfl rfl rfl (ltb rfl) rfl rfl rfl (fun _ h => absurd h List.not_mem_nil) (w_eqTree_ok n i308 i309 t310 q311 f311 ks311 i30 i31 t32 q33 f33 ks33 hg442 _ _) (callK_retX (fun v tk443 (hle444 : tkj306 ≤ tk443) h445 => ?_))
                subst h445
                refine run_pu rfl (aun_step rfl rfl rfl) rfl (ltb rfl) ?_
                refine mvL rfl rfl rfl rfl (ltb rfl) ?_
                refine run_splitb (i := 129) rfl (fun hb448 => ?_) (fun hb448 => ?_)
                ·replace hM := ite_t hb448 hM
                 refine run_off (on_of rfl rfl rfl rfl) rfl (ltb rfl) ?_
                 refine run_off (on_of rfl rfl rfl rfl) rfl (ltb rfl) ?_
                 refine run_off (on_of rfl rfl rfl rfl) rfl (ltb rfl) ?_
                 refine run_pu rfl (pick_step rfl rfl rfl) rfl (ltb rfl) ?_
                 refine run_ops_nil ?_
                 refine run_if rfl rfl (fun _ => ?_) (fun h => by cases h)
                 refine run_sr ?_
                 refine mvR rfl rfl rfl rfl (ltb rfl) ?_
                 refine run_ops_nil ?_
                 refine run_ret_to ?_
                 obtain rfl := some_t hM
                 refine fin_x hG rfl rfl rfl (v' := .bool false) (by rfl) ⟨rfl, (show tk ≤ tk443 by omega), _, rfl, rfl⟩
                ·replace hM := ite_f hb448 hM
                 refine run_puG (on_of rfl rfl rfl rfl) (move_step (.inl rfl) rfl) rfl (ltb rfl) ?_
                 refine run_puG (on_of rfl rfl rfl rfl) (move_step (.inl rfl) rfl) rfl (ltb rfl) ?_
                 refine run_puG (on_of rfl rfl rfl rfl) (abin_step rfl rfl rfl rfl (fun _ h => by cases h)) rfl (ltb rfl) ?_
                 refine run_pu rfl (pick_step rfl rfl rfl) rfl (ltb rfl) ?_
                 refine run_ops_nil ?_
                 refine run_ifb rfl rfl (fun hb449 => ?_) (fun hb449 => ?_)
                 ·replace hM := ite_t hb449 hM
                  refine run_sr ?_
                  refine mvR rfl rfl rfl rfl (ltb rfl) ?_
                  refine run_ops_nil ?_
                  refine run_ret_to ?_
                  obtain rfl := some_t hM
                  refine fin_x hG rfl rfl rfl (v' := .bool false) (by rfl) ⟨rfl, (show tk ≤ tk443 by omega), _, rfl, rfl⟩
                 ·replace hM := ite_f hb449 hM
                  refine run_skip ?_
                  refine run_sr ?_
                  refine mvR rfl rfl rfl rfl (ltb rfl) ?_
                  refine run_ops_nil ?_
                  refine run_sr ?_
                  refine run_ld hG rfl rfl rfl rfl rfl (ltb rfl) ?_
                  refine mvL rfl rfl rfl rfl (ltb rfl) ?_
                  obtain ⟨r450, hg451, hM⟩ := bind_t hM
                  refine run_call rfl rfl rfl (ltb rfl) rfl rfl rfl (fun _ h => absurd h List.not_mem_nil) (w_heldTree_ok n k189 n189 s189 q189 f189 ks292 1 hg451 _ _) (callK_retX (fun v tk452 (hle453 : tk443 ≤ tk452) h454 => ?_))
                  subst h454
                  refine mvR rfl rfl rfl rfl (ltb rfl) ?_
                  refine run_ops_nil ?_
                  refine run_sub_code (σ' := ⟨[(6, .bool false), (16, .int .i64 k293), (17, .int .i64 r450)], [], [], O, tk452⟩) (Sub.trans (Sub.drop (k := 18) rfl) (Sub.trans (Sub.drop (k := 13) rfl) (Sub.trans (Sub.drop (k := 8) rfl) (Sub.trans (Sub.drop (k := 5) rfl) (Sub.trans (Sub.drop (k := 4) rfl) (Sub.trans (Sub.drop (k := 3) rfl) (Sub.env _ ⟨rfl, rfl, rfl, trivial⟩))))))) ?_
                  refine run_seq ?_
                  refine run_sr ?_
                  refine mvL rfl rfl rfl rfl (ltb rfl) ?_
                  refine run_bin rfl rfl rfl rfl rfl rfl rfl (ltb rfl) ?_
                  refine run_ops_nil ?_
                  refine run_ifd rfl rfl (fun hb457 => ?_) (fun hb457 => ?_)
                  ·replace hM := ite_t hb457 hM
                   refine run_sr ?_
                   refine mvR rfl rfl rfl rfl (ltb rfl) ?_
                   refine run_ops_nil ?_
                   refine run_ret_to ?_
                   obtain rfl := some_t hM
                   refine fin_x hG rfl rfl rfl (v' := .bool false) (by rfl) ⟨rfl, (show tk ≤ tk452 by omega), _, rfl, rfl⟩
                  ·replace hM := ite_f hb457 hM
                   refine run_skip ?_
                   refine run_seq ?_
                   refine run_sr ?_
                   refine mvL rfl rfl rfl rfl (ltb rfl) ?_
                   refine mvL rfl rfl rfl rfl (ltb rfl) ?_
                   refine run_bin rfl rfl rfl rfl rfl rfl rfl (ltb rfl) ?_
                   refine run_ops_nil ?_
                   refine run_ifb rfl rfl (fun hb458 => ?_) (fun hb458 => ?_)
                   ·replace hM := ite_t hb458 hM
                    refine run_sr ?_
                    refine mvR rfl rfl rfl rfl (ltb rfl) ?_
                    refine run_ops_nil ?_
                    refine run_ret_to ?_
                    obtain rfl := some_t hM
                    refine fin_x hG rfl rfl rfl (v' := .bool false) (by rfl) ⟨rfl, (show tk ≤ tk452 by omega), _, rfl, rfl⟩
                   ·replace hM := ite_f hb458 hM
                    refine run_skip ?_
                    refine run_sr ?_
                    refine mvR rfl rfl rfl rfl (ltb rfl) ?_
                    refine run_ops_nil ?_
                    refine run_ret_to ?_
                    obtain rfl := some_t hM
                    refine fin_x hG rfl rfl rfl (v' := .bool true) (by rfl) ⟨rfl, (show tk ≤ tk452 by omega), _, rfl, rfl⟩

end Go.Am.YtiobknkpdkkikabDoor
