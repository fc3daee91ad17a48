/- Short forms of the rules that printed walks use most: one computed fact in the place of many. -/
import Derived.Test.YtoajlhhalpldfaaGreatDoorMi4
namespace Go.Am
open Go

theorem yE {α : Type} {p : α → Prop} : ∀ x : α, x ∈ ([] : List α) → p x := fun _ h => absurd h List.not_mem_nil
theorem yN {C : Ctx} {Q : AEx → St → Prop} {ks : List AItem} {σ : St} {all : Array Oper} (h : Run C Q ks .normal σ) : Run C Q (.ops all [] :: ks) .normal σ := run_ops_nil h
section
variable {C : Ctx} {Q : AEx → St → Prop} {ks : List AItem} {σ σ' : St} {all : Array Oper} {o : Oper} {rest : List Oper} {v : AV} {d : Nat}
def sL (o : Oper) (env : List (Nat × AV)) (nt : Nat) : Option (Nat × AV) := (match o.guard with | none => (match o.op with | .move x => (match oev env x with | some v => (match o.dst with | some d => (match Nat.ble (d + 1) nt with | true => some (d, v) | false => none) | none => none) | none => none) | _ => none) | some _ => none)
theorem yL (h : sL o σ.env C.nt = some (d, v)) (hr : Run C Q (.ops all rest :: ks) .normal (σ.put d v)) : Run C Q (.ops all (o :: rest) :: ks) .normal σ := by
 unfold sL at h
 split at h
 ·rename_i hg
  split at h
  ·rename_i x ho
   split at h
   ·rename_i v' hx
    split at h
    ·rename_i d' hd
     split at h
     ·rename_i hn
      cases h
      exact mvL hg ho hx hd (ltb hn) hr
     cases h
    cases h
   cases h
  cases h
 cases h
def sR (o : Oper) (env : List (Nat × AV)) (nt : Nat) : Option (Nat × AV) := (match o.guard with | none => (match o.op with | .assign x => (match oev env x with | some v => (match o.dst with | some d => (match Nat.ble (d + 1) nt with | true => some (d, v) | false => none) | none => none) | none => none) | _ => none) | some _ => none)
theorem yR (h : sR o σ.env C.nt = some (d, v)) (hr : Run C Q (.ops all rest :: ks) .normal (σ.put d v)) : Run C Q (.ops all (o :: rest) :: ks) .normal σ := by
 unfold sR at h
 split at h
 ·rename_i hg
  split at h
  ·rename_i x ho
   split at h
   ·rename_i v' hx
    split at h
    ·rename_i d' hd
     split at h
     ·rename_i hn
      cases h
      exact mvR hg ho hx hd (ltb hn) hr
     cases h
    cases h
   cases h
  cases h
 cases h
def sB (o : Oper) (env : List (Nat × AV)) (nt : Nat) : Option (Nat × AV) := (match o.guard with | none => (match o.op with | .binOp op T x y T' => (match oev env x with | some p => (match oev env y with | some q => (match p.nb with | true => (match abin op p q with | some v => (match o.dst with | some d => (match Nat.ble (d + 1) nt with | true => some (d, v) | false => none) | none => none) | none => none) | false => none) | none => none) | none => none) | _ => none) | some _ => none)
theorem yB (h : sB o σ.env C.nt = some (d, v)) (hr : Run C Q (.ops all rest :: ks) .normal (σ.put d v)) : Run C Q (.ops all (o :: rest) :: ks) .normal σ := by
 unfold sB at h
 split at h
 ·rename_i hg
  split at h
  ·rename_i op T x y T' ho
   split at h
   ·rename_i p hx
    split at h
    ·rename_i q hy
     split at h
     ·rename_i hb
      split at h
      ·rename_i v' hv
       split at h
       ·rename_i d' hd
        split at h
        ·rename_i hn
         cases h
         exact run_bin hg ho hx hy hv hb hd (ltb hn) hr
        cases h
       cases h
      cases h
     cases h
    cases h
   cases h
  cases h
 cases h
def sP (o : Oper) (env : List (Nat × AV)) (nt : Nat) : Option (Nat × AV) := (match o.guard with | none => (match o.op with | .pick c x y => (match oev env c with | some (.bool b) => (match oev env (if b then x else y) with | some v => (match o.dst with | some d => (match Nat.ble (d + 1) nt with | true => some (d, v) | false => none) | none => none) | none => none) | _ => none) | _ => none) | some _ => none)
theorem yP (h : sP o σ.env C.nt = some (d, v)) (hr : Run C Q (.ops all rest :: ks) .normal (σ.put d v)) : Run C Q (.ops all (o :: rest) :: ks) .normal σ := by
 unfold sP at h
 split at h
 ·rename_i hg
  split at h
  ·rename_i c x y ho
   split at h
   ·rename_i b hc
    split at h
    ·rename_i v' hx
     split at h
     ·rename_i d' hd
      split at h
      ·rename_i hn
       cases h
       exact run_pu hg (pick_step ho hc hx) hd (ltb hn) hr
      cases h
     cases h
    cases h
   cases h
  cases h
 cases h
def sD (Γ : TTab) (H : Heap) (o : Oper) (env : List (Nat × AV)) (nt : Nat) : Option (Nat × AV) := (match o.guard with | none => (match o.op with | .load T x => (match oev env x with | some p => (match aload Γ H T p with | some v => (match o.dst with | some d => (match Nat.ble (d + 1) nt with | true => some (d, v) | false => none) | none => none) | none => none) | none => none) | _ => none) | some _ => none)
theorem yD {Γ : TTab} (hG : GOK C.P Γ) (h : sD Γ (C.heap σ) o σ.env C.nt = some (d, v)) (hr : Run C Q (.ops all rest :: ks) .normal (σ.put d v)) : Run C Q (.ops all (o :: rest) :: ks) .normal σ := by
 unfold sD at h
 split at h
 ·rename_i hg
  split at h
  ·rename_i T x ho
   split at h
   ·rename_i p hx
    split at h
    ·rename_i v' hv
     split at h
     ·rename_i d' hd
      split at h
      ·rename_i hn
       cases h
       exact run_ld hG hg ho hx hv hd (ltb hn) hr
      cases h
     cases h
    cases h
   cases h
  cases h
 cases h
def sF (Γ : TTab) (o : Oper) (env : List (Nat × AV)) (nt : Nat) : Option (Nat × AV) := (match o.guard with | none => (match o.op with | .fieldAddr T x k => (match oev env x with | some p => (match look T Γ with | some i => (match i.flds[k]? with | some f => (match afield f p with | some v => (match o.dst with | some d => (match Nat.ble (d + 1) nt with | true => some (d, v) | false => none) | none => none) | none => none) | none => none) | none => none) | none => none) | _ => none) | some _ => none)
theorem yF {Γ : TTab} (hG : GOK C.P Γ) (h : sF Γ o σ.env C.nt = some (d, v)) (hr : Run C Q (.ops all rest :: ks) .normal (σ.put d v)) : Run C Q (.ops all (o :: rest) :: ks) .normal σ := by
 unfold sF at h
 split at h
 ·rename_i hg
  split at h
  ·rename_i T x k ho
   split at h
   ·rename_i p hx
    split at h
    ·rename_i i hT
     split at h
     ·rename_i f hf
      split at h
      ·rename_i v' hv
       split at h
       ·rename_i d' hd
        split at h
        ·rename_i hn
         cases h
         exact run_pu hg (fieldAddr_step hG ho hx hT hf hv) hd (ltb hn) hr
        cases h
       cases h
      cases h
     cases h
    cases h
   cases h
  cases h
 cases h
def sO (all : Array Oper) (o : Oper) (env : List (Nat × AV)) (nt : Nat) : Option Nat := (match o.guard with | some (j, want) => (match (all[j]?).bind (·.dst) with | some i => (match look i env with | some (.bool u) => (match u == want with | false => (match o.dst with | some d => (match Nat.ble (d + 1) nt with | true => some d | false => none) | none => none) | true => none) | _ => none) | none => none) | none => none)
theorem yO (h : sO all o σ.env C.nt = some d) (hr : Run C Q (.ops all rest :: ks) .normal (σ.put d (.tup []))) : Run C Q (.ops all (o :: rest) :: ks) .normal σ := by
 unfold sO at h
 split at h
 ·rename_i j want hg
  split at h
  ·rename_i i hj
   split at h
   ·rename_i u hv
    split at h
    ·rename_i hb
     split at h
     ·rename_i d' hd
      split at h
      ·rename_i hn
       cases h
       exact run_off (on_of hg hj hv hb) hd (ltb hn) hr
      cases h
     cases h
    cases h
   cases h
  cases h
 cases h
def sS (Γ : TTab) (σ : St) (o : Oper) : Option St := (match o.guard with | none => (match o.op with | .store T x y => (match oev σ.env x with | some p => (match oev σ.env y with | some w => (match look T Γ with | some i => (match cellsOf w with | some cs => (match Nat.beq cs.length i.size with | true => (match alld1 cs with | true => (match o.dst with | none => astore σ p cs | some _ => none) | false => none) | false => none) | none => none) | none => none) | none => none) | none => none) | _ => none) | some _ => none)
theorem yS {Γ : TTab} (hG : GOK C.P Γ) (h : sS Γ σ o = some σ') (hr : Run C Q (.ops all rest :: ks) .normal σ') : Run C Q (.ops all (o :: rest) :: ks) .normal σ := by
 unfold sS at h
 split at h
 ·rename_i hg
  split at h
  ·rename_i T x y ho
   split at h
   ·rename_i p hx
    split at h
    ·rename_i w hy
     split at h
     ·rename_i i hT
      split at h
      ·rename_i cs hcs
       split at h
       ·rename_i hl
        split at h
        ·rename_i hd
         split at h
         ·rename_i hz
          exact run_op0 hg (store_step hG ho hx hy hT hcs (Nat.eq_of_beq_eq_true hl) hd h) hz hr
         cases h
        cases h
       cases h
      cases h
     cases h
    cases h
   cases h
  cases h
 cases h
end
section
variable {C : Ctx} {all : Array Oper} {Q : AEx → St → Prop} {W : List ID} {fuel : Nat} {listed : Array Bool} {σ : St} {v : AV} {d : Nat}
def rdy (all : Array Oper) (listed : Array Bool) (i : Nat) : Bool := Region.noSelect all && (Region.free .any all listed i && (Region.ready .any all listed).contains i)
theorem rdy_parts {all : Array Oper} {listed : Array Bool} {i : Nat} (h : rdy all listed i = true) : Region.noSelect all = true ∧ Region.free .any all listed i = true ∧ (Region.ready .any all listed).contains i = true := by
 unfold rdy at h
 simp only [Bool.and_eq_true] at h
 exact h
def ldokB (W : List ID) : AV → Bool
 | .optr x _ _ => !(W.contains x)
 | .cptr _ => true
 | _ => false
theorem ldokB_of {W : List ID} {p : AV} (h : ldokB W p = true) : ldok W p := by
 cases p <;> first | trivial | (cases h; done) | (simpa [ldokB, ldok] using h)
def sTV (all : Array Oper) (i : Nat) (env : List (Nat × AV)) (nt : Nat) : Option (Nat × AV) := (match all[i]? with | some o => (match o.guard with | none => (match o.op with | .move x => (match oev env x with | some v => (match o.dst with | some d => (match Nat.ble (d + 1) nt with | true => some (d, v) | false => none) | none => none) | none => none) | _ => none) | some _ => none) | none => none)
theorem yTV (i : Nat) (hr : rdy all listed i = true) (h : sTV all i σ.env C.nt = some (d, v)) (k : AAny C all Q W fuel (listed.setIfInBounds i true) (σ.put d v)) : AAny C all Q W (fuel + 1) listed σ := by
 obtain ⟨r1, r2, r3⟩ := rdy_parts hr
 unfold sTV at h
 split at h
 ·rename_i oi hi
  split at h
  ·rename_i hg
   split at h
   ·rename_i x ho
    split at h
    ·rename_i v' hx
     split at h
     ·rename_i d' hd
      split at h
      ·rename_i hn
       cases h
       exact AAny.take hi r1 r2 r3 hg hd (ltb hn) ((move_step (.inl ho) hx).rd _) k
      cases h
     cases h
    cases h
   cases h
  cases h
 cases h
def sTW (all : Array Oper) (i : Nat) (env : List (Nat × AV)) (nt : Nat) : Option (Nat × AV) := (match all[i]? with | some o => (match o.guard with | none => (match o.op with | .assign x => (match oev env x with | some v => (match o.dst with | some d => (match Nat.ble (d + 1) nt with | true => some (d, v) | false => none) | none => none) | none => none) | _ => none) | some _ => none) | none => none)
theorem yTW (i : Nat) (hr : rdy all listed i = true) (h : sTW all i σ.env C.nt = some (d, v)) (k : AAny C all Q W fuel (listed.setIfInBounds i true) (σ.put d v)) : AAny C all Q W (fuel + 1) listed σ := by
 obtain ⟨r1, r2, r3⟩ := rdy_parts hr
 unfold sTW at h
 split at h
 ·rename_i oi hi
  split at h
  ·rename_i hg
   split at h
   ·rename_i x ho
    split at h
    ·rename_i v' hx
     split at h
     ·rename_i d' hd
      split at h
      ·rename_i hn
       cases h
       exact AAny.take hi r1 r2 r3 hg hd (ltb hn) ((move_step (.inr ho) hx).rd _) k
      cases h
     cases h
    cases h
   cases h
  cases h
 cases h
def sTL (Γ : TTab) (H : Heap) (W : List ID) (all : Array Oper) (i : Nat) (env : List (Nat × AV)) (nt : Nat) : Option (Nat × AV) := (match all[i]? with | some o => (match o.guard with | none => (match o.op with | .load T x => (match oev env x with | some p => (match ldokB W p with | true => (match aload Γ H T p with | some v => (match o.dst with | some d => (match Nat.ble (d + 1) nt with | true => some (d, v) | false => none) | none => none) | none => none) | false => none) | none => none) | _ => none) | some _ => none) | none => none)
theorem yTL {Γ : TTab} (hG : GOK C.P Γ) (i : Nat) (hr : rdy all listed i = true) (h : sTL Γ (C.heap σ) W all i σ.env C.nt = some (d, v)) (k : AAny C all Q W fuel (listed.setIfInBounds i true) (σ.put d v)) : AAny C all Q W (fuel + 1) listed σ := by
 obtain ⟨r1, r2, r3⟩ := rdy_parts hr
 unfold sTL at h
 split at h
 ·rename_i oi hi
  split at h
  ·rename_i hg
   split at h
   ·rename_i T x ho
    split at h
    ·rename_i p hx
     split at h
     ·rename_i hl
      split at h
      ·rename_i v' hv
       split at h
       ·rename_i d' hd
        split at h
        ·rename_i hn
         cases h
         exact AAny.take hi r1 r2 r3 hg hd (ltb hn) (aload_rd hG ho hx hv (ldokB_of hl)) k
        cases h
       cases h
      cases h
     cases h
    cases h
   cases h
  cases h
 cases h
def sTF (Γ : TTab) (all : Array Oper) (i : Nat) (env : List (Nat × AV)) (nt : Nat) : Option (Nat × AV) := (match all[i]? with | some o => (match o.guard with | none => (match o.op with | .fieldAddr T x k => (match oev env x with | some p => (match look T Γ with | some i => (match i.flds[k]? with | some f => (match afield f p with | some v => (match o.dst with | some d => (match Nat.ble (d + 1) nt with | true => some (d, v) | false => none) | none => none) | none => none) | none => none) | none => none) | none => none) | _ => none) | some _ => none) | none => none)
theorem yTF {Γ : TTab} (hG : GOK C.P Γ) (i : Nat) (hr : rdy all listed i = true) (h : sTF Γ all i σ.env C.nt = some (d, v)) (k : AAny C all Q W fuel (listed.setIfInBounds i true) (σ.put d v)) : AAny C all Q W (fuel + 1) listed σ := by
 obtain ⟨r1, r2, r3⟩ := rdy_parts hr
 unfold sTF at h
 split at h
 ·rename_i oi hi
  split at h
  ·rename_i hg
   split at h
   ·rename_i T x k' ho
    split at h
    ·rename_i p hx
     split at h
     ·rename_i ti hT
      split at h
      ·rename_i f hf
       split at h
       ·rename_i v' hv
        split at h
        ·rename_i d' hd
         split at h
         ·rename_i hn
          cases h
          exact AAny.take hi r1 r2 r3 hg hd (ltb hn) ((fieldAddr_step hG ho hx hT hf hv).rd _) k
         cases h
        cases h
       cases h
      cases h
     cases h
    cases h
   cases h
  cases h
 cases h
def pick : List Nat → List (Nat × AV) → Option (List (Nat × AV))
 | [], _ => some []
 | i :: r, env => match look i env with
  | some v => match pick r env with
   | some e => some ((i, v) :: e)
   | none => none
  | none => none
theorem pick_has : ∀ {l : List Nat} {env e : List (Nat × AV)}, pick l env = some e → Has env e
 | [], _, _, h => by simp only [pick] at h; cases h; trivial
 | i :: r, env, e, h => by
  simp only [pick] at h
  split at h
  ·rename_i v hv
   split at h
   ·rename_i e' he
    cases h
    exact ⟨hv, pick_has he⟩
   cases h
  cases h
theorem Sub.pk {C : Ctx} {σ : St} {env : List (Nat × AV)} (l : List Nat) (h : pick l σ.env = some env) : Sub C σ { σ with env := env } := Sub.env env (pick_has h)
def tz (b : Bool) (l : List ID) : Bool := match b with | true => l.isEmpty | false => (upsOf l).isEmpty
def cC' (b : Bool) (o : Oper) (env : List (Nat × AV)) (nt : Nat) : Option (Nat × FuncId × List AV) := (match o.op with | .call c => (match c.callee with | .value f => (match oev env f with | some (.fn (.func fid) first cap) => (match oevs env c.args.toList with | some vs => (match (first ++ (vs ++ cap)).all argok with | true => (match tz b (tch (first ++ (vs ++ cap))) with | true => (match o.dst with | some d => (match Nat.ble (d + 1) nt with | true => some (d, fid, first ++ (vs ++ cap)) | false => none) | none => none) | false => none) | false => none) | none => none) | _ => none) | _ => none) | _ => none)
def cC (b : Bool) (o : Oper) (env : List (Nat × AV)) (nt : Nat) : Option (Nat × FuncId × List AV) := (match o.guard with | none => cC' b o env nt | some _ => none)
theorem cC'_get {b : Bool} {o : Oper} {env : List (Nat × AV)} {nt d : Nat} {fid : FuncId} {args : List AV} (h : cC' b o env nt = some (d, fid, args)) : ∃ f xs ts first cap vs, o.op = .call { callee := .value f, args := (xs : List Operand).toArray, argTypes := ts } ∧ o.dst = some d ∧ d < nt ∧ oev env f = some (.fn (.func fid) first cap) ∧ oevs env xs = some vs ∧ (first ++ (vs ++ cap)).all argok = true ∧ tz b (tch (first ++ (vs ++ cap))) = true ∧ args = first ++ (vs ++ cap) := by
 unfold cC' at h
 split at h
 ·rename_i c ho
  split at h
  ·rename_i f hc
   split at h
   ·rename_i fid' first cap hf
    split at h
    ·rename_i vs hx
     split at h
     ·rename_i hok
      split at h
      ·rename_i hT
       split at h
       ·rename_i d' hd
        split at h
        ·rename_i hn
         cases h
         refine ⟨f, c.args.toList, c.argTypes, first, cap, vs, ?_, hd, ltb hn, hf, hx, hok, hT, rfl⟩
         rw [ho]
         cases c
         simp only at hc
         subst hc
         simp
        cases h
       cases h
      cases h
     cases h
    cases h
   cases h
  cases h
 cases h
theorem cC_get {b : Bool} {o : Oper} {env : List (Nat × AV)} {nt : Nat} {r : Nat × FuncId × List AV} (h : cC b o env nt = some r) : o.guard = none ∧ cC' b o env nt = some r := by
 unfold cC at h
 split at h
 ·rename_i hg; exact ⟨hg, h⟩
 cases h
theorem yC (i : Nat) {o : Oper} {fid : FuncId} {args : List AV} {R : Out → Heap → Nat → Prop} (hr : Region.ready .any all listed = [i]) (hi : all[i]? = some o) (h : cC true o σ.env C.nt = some (d, fid, args)) (hc : ACalls C.P fid args (C.heap σ) σ.tk R)
  (k : CallK C σ (fun σ' v => AAny C all Q W fuel (listed.setIfInBounds i true) (σ'.put d v)) (fun σ' v => Q (.pan v) { σ' with env := [] }) R) : AAny C all Q W (fuel + 1) listed σ := by
 obtain ⟨hg, h⟩ := cC_get h
 obtain ⟨f, xs, ts, first, cap, vs, h1, h2, h3, h4, h5, h6, h7, rfl⟩ := cC'_get h
 exact AAny.one hr (AOp.call hi hg h1 h2 h3 h4 h5 h6 (by rw [List.isEmpty_iff.1 h7]; exact fun x h => absurd h List.not_mem_nil) (by rw [List.isEmpty_iff.1 h7]; exact fun x h => absurd h List.not_mem_nil) hc k)
theorem yI {i : Nat} {o : Oper} {K : St → Prop} {fid : FuncId} {args : List AV} {R : Out → Heap → Nat → Prop} (hi : all[i]? = some o) (h : cC true o σ.env C.nt = some (d, fid, args)) (hc : ACalls C.P fid args (C.heap σ) σ.tk R)
  (k : CallK C σ (fun σ' v => K (σ'.put d v)) (fun σ' v => Q (.pan v) { σ' with env := [] }) R) : AOp C all Q W i K σ := by
 obtain ⟨hg, h⟩ := cC_get h
 obtain ⟨f, xs, ts, first, cap, vs, h1, h2, h3, h4, h5, h6, h7, rfl⟩ := cC'_get h
 exact AOp.call hi hg h1 h2 h3 h4 h5 h6 (by rw [List.isEmpty_iff.1 h7]; exact fun x h => absurd h List.not_mem_nil) (by rw [List.isEmpty_iff.1 h7]; exact fun x h => absurd h List.not_mem_nil) hc k
theorem yK {ks : List AItem} {rest : List Oper} {o : Oper} {fid : FuncId} {args : List AV} {R : Out → Heap → Nat → Prop} (h : cC false o σ.env C.nt = some (d, fid, args)) (hc : ACalls C.P fid args (C.heap σ) σ.tk R)
  (k : CallK C σ (fun σ' v => Run C Q (.ops all rest :: ks) .normal (σ'.put d v)) (fun σ' v => Run C Q ks (.pan v) { σ' with env := [] }) R) : Run C Q (.ops all (o :: rest) :: ks) .normal σ := by
 obtain ⟨hg, h⟩ := cC_get h
 obtain ⟨f, xs, ts, first, cap, vs, h1, h2, h3, h4, h5, h6, h7, rfl⟩ := cC'_get h
 exact run_call hg h1 h2 h3 h4 h5 h6 (by rw [List.isEmpty_iff.1 h7]; exact fun x h => absurd h List.not_mem_nil) hc k
theorem yG {ks : List AItem} {rest : List Oper} {o : Oper} {fid : FuncId} {args : List AV} {R : Out → Heap → Nat → Prop} (hg : OnG all σ o true) (h : cC' false o σ.env C.nt = some (d, fid, args)) (hc : ACalls C.P fid args (C.heap σ) σ.tk R)
  (k : CallK C σ (fun σ' v => Run C Q (.ops all rest :: ks) .normal (σ'.put d v)) (fun σ' v => Run C Q ks (.pan v) { σ' with env := [] }) R) : Run C Q (.ops all (o :: rest) :: ks) .normal σ := by
 obtain ⟨f, xs, ts, first, cap, vs, h1, h2, h3, h4, h5, h6, h7, rfl⟩ := cC'_get h
 exact run_callG hg h1 h2 h3 h4 h5 h6 (by rw [List.isEmpty_iff.1 h7]; exact fun x h => absurd h List.not_mem_nil) hc k
def sPw (o : Oper) (env : List (Nat × AV)) (W : List ID) : Bool := (match o.op with | .store _ x _ => (match oev env x with | some (.optr id _ _) => W.contains id | _ => false) | _ => false)
theorem yW {Γ : TTab} (hG : GOK C.P Γ) (i : Nat) {o : Oper} {σ' : St} (hr : Region.ready .any all listed = [i]) (hi : all[i]? = some o) (hp : sPw o σ.env W = true) (h : sS Γ σ o = some σ') (k : AAny C all Q W fuel (listed.setIfInBounds i true) σ') : AAny C all Q W (fuel + 1) listed σ := by
 unfold sS at h
 split at h
 ·rename_i hg
  split at h
  ·rename_i T x y ho
   split at h
   ·rename_i p hx
    split at h
    ·rename_i w hy
     split at h
     ·rename_i ti hT
      split at h
      ·rename_i cs hcs
       split at h
       ·rename_i hl
        split at h
        ·rename_i hd
         split at h
         ·rename_i hz
          refine AAny.one hr (AOp.step0 hi hg hz (store_step hG ho hx hy hT hcs (Nat.eq_of_beq_eq_true hl) hd h) (fun z hz => ?_) k)
          unfold sPw at hp
          simp only [ho, hx] at hp
          cases p with
          | optr id q r =>
           have hz : z ∈ [id] := hz
           rw [List.mem_singleton.1 hz]
           simpa using hp
          | _ => exact absurd hz List.not_mem_nil
         cases h
        cases h
       cases h
      cases h
     cases h
    cases h
   cases h
  cases h
 cases h
theorem yT (i : Nat) {oi : Oper} (hr : rdy all listed i = true) (hi : all[i]? = some oi) (hg : oi.guard = none) (hd : oi.dst = some d) (hn : d < C.nt) (hy : Rd C W oi σ v) (k : AAny C all Q W fuel (listed.setIfInBounds i true) (σ.put d v)) : AAny C all Q W (fuel + 1) listed σ :=
 let ⟨r1, r2, r3⟩ := rdy_parts hr
 AAny.take hi r1 r2 r3 hg hd hn hy k
end
def Apart (la ha : Nat) (b : List Nat) : Prop := ∀ x ∈ b, x < la ∨ ha ≤ x
theorem Apart.nil (la ha : Nat) : Apart la ha [] := fun x h => by cases h
theorem Apart.of {la ha lo hi : Nat} {b : List Nat} (h : Fr lo hi b) (o : hi ≤ la ∨ ha ≤ lo) : Apart la ha b := fun x hx => by have := h.2 x hx; omega
theorem Apart.app {la ha : Nat} {a b : List Nat} (h : Apart la ha a) (k : Apart la ha b) : Apart la ha (a ++ b) := fun x hx => (List.mem_append.1 hx).elim (h x) (k x)
theorem Apart.tcons {la ha : Nat} {k n : Int} {s : ByteArray} {q : Nat} {f : Bool} {ks r : List LT} (h : Apart la ha (tstoks q ks)) (h2 : Apart la ha (ttoks r)) : Apart la ha (ttoks (LT.mk k n s q f ks :: r)) := by
 simp only [ttoks, LT.toks_eq]; exact h.app h2
theorem Apart.tstop {la ha q : Nat} {ks : List LT} (o : q < la ∨ ha ≤ q) (h : Apart la ha (ttoks ks)) : Apart la ha (tstoks q ks) := by
 cases ks with
 | nil => exact Apart.nil _ _
 | cons t r => intro x hx; rcases List.mem_cons.1 hx with rfl | hx; exact o; exact h x hx
theorem Fr.sep {la ha lo hi : Nat} {a b : List Nat} (h : Fr la ha a) (k : Fr lo hi b) (o : Apart la ha b) (h1 : lo ≤ la) (h2 : ha ≤ hi) : Fr lo hi (a ++ b) := by
 refine ⟨List.nodup_append.2 ⟨h.1, k.1, fun x hx y hy e => ?_⟩, fun x hx => ?_⟩
 ·have := h.2 x hx; have := o y hy; omega
 rcases List.mem_append.1 hx with hx | hx
 ·have := h.2 x hx; omega
 exact k.2 x hx
theorem Fr.tconsS {la ha lo hi : Nat} {k n : Int} {s : ByteArray} {q : Nat} {f : Bool} {ks r : List LT} (h : Fr la ha (tstoks q ks)) (h2 : Fr lo hi (ttoks r)) (o : Apart la ha (ttoks r)) (h1 : lo ≤ la) (h3 : ha ≤ hi) : Fr lo hi (ttoks (LT.mk k n s q f ks :: r)) := by
 simp only [ttoks, LT.toks_eq]; exact h.sep h2 o h1 h3
inductive LkP : List (Nat × Obj) → List (Nat × Obj) → Prop
 | refl (l) : LkP l l
 | swap (a x b y r) (h : Nat.beq a b = false) : LkP ((a, x) :: (b, y) :: r) ((b, y) :: (a, x) :: r)
 | cons (p) {l l'} (h : LkP l l') : LkP (p :: l) (p :: l')
 | trans {a b c} (h : LkP a b) (k : LkP b c) : LkP a c
theorem LkP.look {l l' : List (Nat × Obj)} (h : LkP l l') : ∀ i, Go.Am.look i l' = Go.Am.look i l := by
 induction h with
 | refl l => exact fun i => rfl
 | swap a x b y r h =>
  intro i
  simp only [Go.Am.look]
  cases h1 : Nat.beq i a with
  | true =>
   have e := Nat.eq_of_beq_eq_true h1
   subst e
   rw [h]
  | false => rfl
 | cons p h ih =>
  intro i
  obtain ⟨a, x⟩ := p
  simp only [Go.Am.look]
  rw [ih i]
 | trans h k ih1 ih2 => exact fun i => (ih2 i).trans (ih1 i)
theorem Sub.perm {C : Ctx} {σ : St} {l' : List (Nat × Obj)} (h : LkP σ.l l') : Sub C σ ⟨σ.env, l', σ.b, σ.O, σ.tk⟩ := by
 intro a w S hat
 refine ⟨S, ⟨hat.w, ?_, hat.tk, hat.sim, hat.env, hat.nt, hat.defers, hat.ext, fun i hi => hat.new i (by rw [← h.look i]; exact hi), hat.bl, hat.nd, hat.bb, hat.h0, hat.hl, hat.hu, hat.hv, hat.hf, hat.inv⟩, rfl, rfl⟩
 rw [hat.O]
 funext x
 cases x with
 | loc i => exact (h.look i).symm
 | bor i => rfl
 | up x => rfl
end Go.Am
