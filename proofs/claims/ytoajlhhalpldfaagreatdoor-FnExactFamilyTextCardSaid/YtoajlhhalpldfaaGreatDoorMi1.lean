/- The abstract memory logic and its tools: several texts in one. -/
import Derived.Laws.BytesString
import Derived.Laws.Concat
import Derived.Laws.Strings
import Derived.Laws.Strings2
import Derived.WalkSmall
import Derived.Test.YtoajlhhalpldfaaGreatDoorAm3
import Derived.Test.YtoajlhhalpldfaaGreatDoorAm4

/- The mirror's ground: rules in the shape that printed walks use, and the words of printed functions. -/
namespace Go.Am
open Go


def idx {α : Type} (l : List α) (i : Int) : Option α := if 0 ≤ i then l[i.toNat]? else none

theorem idx_nat {α : Type} (l : List α) (i : Nat) : idx l (i : Int) = l[i]? := by
 unfold idx; simp

theorem idx_map {α β : Type} {f : α → β} {l : List α} {i : Int} {x : β} (h : idx (l.map f) i = some x) : ∃ a, l[i.toNat]? = some a ∧ f a = x ∧ ((i.toNat : Nat) : Int) = i := by
 unfold idx at h
 split at h
 ·rename_i h0
  rw [List.getElem?_map] at h
  obtain ⟨a, h1, h2⟩ := Option.map_eq_some_iff.1 h
  exact ⟨a, h1, h2, by omega⟩
 cases h

theorem ite_t {α : Type} {c : Prop} [Decidable c] {a b r : α} (h : c) (e : (if c then a else b) = r) : a = r := by rw [if_pos h] at e; exact e
theorem ite_f {α : Type} {c : Prop} [Decidable c] {a b r : α} (h : ¬ c) (e : (if c then a else b) = r) : b = r := by rw [if_neg h] at e; exact e
theorem bind_t {α β : Type} {x : Option α} {k : α → Option β} {r : β} (e : x.bind k = some r) : ∃ a, x = some a ∧ k a = some r := Option.bind_eq_some_iff.1 e
theorem some_t {α : Type} {a b : α} (e : some a = some b) : a = b := Option.some.inj e

def chk {α : Type} (p : Prop) [Decidable p] (k : Option α) : Option α := if p then k else none
theorem chk_t {α : Type} {p : Prop} [Decidable p] {k : Option α} {r : α} (e : chk p k = some r) : p ∧ k = some r := by
 unfold chk at e
 split at e
 ·exact ⟨by assumption, e⟩
 cases e

section
variable {C : Ctx} {Q : AEx → St → Prop} {ks : List AItem} {σ : St} {all : Array Oper} {rest : List Oper}

theorem run_ifd {c : Operand} {x y : Code} {p : Prop} [Decidable p] {i : Nat} (hc : c = .tmp i) (hv : look i σ.env = some (.bool (decide p)))
  (ht : p → Run C Q (.code x :: ks) .normal σ) (hf : ¬ p → Run C Q (.code y :: ks) .normal σ) : Run C Q (.code (.cond c x y) :: ks) .normal σ :=
 run_if hc hv (fun h => ht (of_decide_eq_true h)) (fun h => hf (of_decide_eq_false h))

theorem run_ifb {c : Operand} {x y : Code} {b : Bool} {i : Nat} (hc : c = .tmp i) (hv : look i σ.env = some (.bool b))
  (ht : b = true → Run C Q (.code x :: ks) .normal σ) (hf : ¬ b = true → Run C Q (.code y :: ks) .normal σ) : Run C Q (.code (.cond c x y) :: ks) .normal σ :=
 run_if hc hv ht (fun h => hf (by rw [h]; exact fun e => by cases e))

theorem run_splitd {p : Prop} [Decidable p] {i : Nat} (hv : look i σ.env = some (.bool (decide p))) (ht : p → Run C Q (.ops all rest :: ks) .normal (σ.put i (.bool true))) (hf : ¬ p → Run C Q (.ops all rest :: ks) .normal (σ.put i (.bool false))) :
  Run C Q (.ops all rest :: ks) .normal σ := run_split hv (fun h => ht (of_decide_eq_true h)) (fun h => hf (of_decide_eq_false h))
theorem run_splitb {b : Bool} {i : Nat} (hv : look i σ.env = some (.bool b)) (ht : b = true → Run C Q (.ops all rest :: ks) .normal (σ.put i (.bool true))) (hf : ¬ b = true → Run C Q (.ops all rest :: ks) .normal (σ.put i (.bool false))) :
  Run C Q (.ops all rest :: ks) .normal σ := run_split hv ht (fun h => hf (by rw [h]; exact fun e => by cases e))
end

def jn {α β : Type} (k : α) (f : α → β) : β := f k
theorem jn_t {α β : Type} {k : α} {f : α → β} {r : β} (e : jn k f = r) : ∃ j, j = k ∧ f j = r := ⟨k, rfl, e⟩

section
variable {C : Ctx} {Q : AEx → St → Prop} {ks : List AItem} {σ : St}

def cutQ (C : Ctx) (Q : AEx → St → Prop) (ks : List AItem) (J : St → Prop) (e : AEx) (σ : St) : Prop := match e with
 | .normal => J σ
 | e => Run C Q ks e σ

def noOps : List AItem → Bool
 | [] => true
 | .ops _ _ :: _ => false
 | _ :: cs => noOps cs

theorem cut_mono {J : St → Prop} (hk : ∀ σ', J σ' → Run C Q ks .normal σ') : ∀ (cs : List AItem) (_ : noOps cs = true) (e : AEx) (σ : St), Run C (cutQ C Q ks J) cs e σ → Run C Q (cs ++ ks) e σ
 | [], _, .normal, σ, h => hk σ h
 | [], _, .exit _, _, h => h
 | [], _, .ret, _, h => h
 | [], _, .pan _, _, h => h
 | .ops all rest :: cs, hn, _, _, _ => by cases hn
 | .code c :: cs, hn, .normal, σ, h => fun a w S hat => Code.wp_mono (QC.mono (cut_mono hk cs hn)) (h a w S hat)
 | .code c :: cs, hn, .exit id, σ, h => cut_mono hk cs hn (.exit id) σ h
 | .code c :: cs, hn, .ret, σ, h => cut_mono hk cs hn .ret σ h
 | .code c :: cs, hn, .pan v, σ, h => cut_mono hk cs hn (.pan v) σ h
 | .blk id :: cs, hn, .normal, σ, h => cut_mono hk cs hn .normal σ h
 | .blk id :: cs, hn, .exit id', σ, h => by
  show (match Nat.beq id' id with | true => Run C Q (cs ++ ks) .normal σ | false => Run C Q (cs ++ ks) (.exit id') σ)
  have h : (match Nat.beq id' id with | true => Run C (cutQ C Q ks J) cs .normal σ | false => Run C (cutQ C Q ks J) cs (.exit id') σ) := h
  cases hb : Nat.beq id' id with
  | true => rw [hb] at h; exact cut_mono hk cs hn .normal σ h
  | false => rw [hb] at h; exact cut_mono hk cs hn (.exit id') σ h
 | .blk id :: cs, hn, .ret, σ, h => cut_mono hk cs hn .ret σ h
 | .blk id :: cs, hn, .pan v, σ, h => cut_mono hk cs hn (.pan v) σ h
 | .loop K :: cs, hn, .normal, σ, h => h
 | .loop K :: cs, hn, .exit id, σ, h => cut_mono hk cs hn (.exit id) σ h
 | .loop K :: cs, hn, .ret, σ, h => cut_mono hk cs hn .ret σ h
 | .loop K :: cs, hn, .pan v, σ, h => cut_mono hk cs hn (.pan v) σ h

theorem run_cutL (cs : List AItem) (J : St → Prop) (hn : noOps cs = true) (h : Run C (cutQ C Q ks J) cs .normal σ) (hk : ∀ σ', J σ' → Run C Q ks .normal σ') : Run C Q (cs ++ ks) .normal σ := cut_mono hk cs hn .normal σ h

theorem cut_ret {J : St → Prop} (h : Q .ret σ) : cutQ C Q ks J .ret σ := run_ret_at h
end


theorem lenImm_step {C : Ctx} {Γ : TTab} (hG : GOK C.P Γ) {σ : St} {o : Oper} {T : TypeId} {x : Operand} (ho : o.op = .call { callee := .builtin .len, args := #[x], argTypes := #[T] }) {tok sz : Nat} {full : Bool} {es : List (List AV)}
  (hx : oev σ.env x = some (.imm tok sz full es)) {i : TI} {e : TypeId} (hT : look T Γ = some i) (hd : i.desc = .slice e) {m : Nat} (hm : es.length = m) : Pu C o σ (.int .i64 m) := by
 subst hm
 exact len_step hG ho hx hT (by unfold alenD; rw [hd])

theorem indexImm_step {C : Ctx} {Γ : TTab} (hG : GOK C.P Γ) {σ : St} {o : Oper} {T : TypeId} {x y : Operand} (ho : o.op = .indexAddr T x y) {tok sz : Nat} {full : Bool} {es : List (List AV)} {k : IntKind} {i : Int}
  (hx : oev σ.env x = some (.imm tok sz full es)) (hy : oev σ.env y = some (.int k i)) (hi : ((i.toNat : Nat) : Int) = i) {t j : TI} {e : TypeId} (hT : look T Γ = some t) (hd : t.desc = .slice e) (he : look e Γ = some j) (hsz : sz = j.size)
  {c : List AV} (hc : es[i.toNat]? = some c) : Pu C o σ (.cptr c) := by
 rw [← hi] at hy
 exact indexAddr_step hG ho hx hy hT hd he hsz (aindex_imm hc)


def RetX (O : Heap) (tk : Nat) (P : AV → Nat → Prop) (out : Out) (O' : Heap) (tk' : Nat) : Prop := O' = O ∧ tk ≤ tk' ∧ ∃ v, out = .ret v ∧ P v tk'

theorem callK_retX {C : Ctx} {σ : St} {K KP : St → AV → Prop} {P : AV → Nat → Prop} (h : ∀ v tk', σ.tk ≤ tk' → P v tk' → K ⟨σ.env, σ.l, σ.b, σ.O, tk'⟩ v) : CallK C σ K KP (RetX (C.heap σ) σ.tk P) :=
 ⟨fun v' O' tk' ⟨h1, h2, v, h3, h4⟩ => by cases h3; exact ⟨⟨σ.env, σ.l, σ.b, σ.O, tk'⟩, rfl, h1.symm, rfl, rfl, h _ _ h2 h4⟩, fun v O' tk' ⟨_, _, _, h2, _⟩ => (by cases h2), fun ob O' tk' ⟨_, _, _, h2, _⟩ => (by cases h2)⟩

def RetV (O : Heap) (x : ID) (tk : Nat) (P : AV → Obj → Nat → Prop) (out : Out) (O' : Heap) (tk' : Nat) : Prop := ∃ v o', out = .ret v ∧ O' = upd O x o' ∧ tk ≤ tk' ∧ P v o' tk'

theorem upd_loc {C : Ctx} {σ : St} {k : Nat} {o o' : Obj} (hk : look k σ.l = some o) {tk' : Nat} : C.heap ⟨σ.env, setl k o' σ.l, σ.b, σ.O, tk'⟩ = upd (C.heap σ) (.loc k) o' := by
 funext z
 cases z with
 | loc i =>
  show look i (setl k o' σ.l) = upd (C.heap σ) (.loc k) o' (.loc i)
  rw [look_setl (by rw [hk]; rfl) i]
  unfold upd
  by_cases hi : i = k
  ·subst hi; simp
  rw [if_neg hi, if_neg (fun e => hi (by cases e; rfl))]; rfl
 | bor i => unfold upd; rw [if_neg (fun e => by cases e)]; rfl
 | up z => unfold upd; rw [if_neg (fun e => by cases e)]; rfl

theorem upd_bor {C : Ctx} {σ : St} {k : Nat} {o o' : Obj} (hk : σ.b[k]? = some o) (hup : o'.up = o') {tk' : Nat} : C.heap ⟨σ.env, σ.l, σ.b.set k o', σ.O, tk'⟩ = upd (C.heap σ) (.bor k) o' := by
 have hlt : k < σ.b.length := (List.getElem?_eq_some_iff.1 hk).1
 funext z
 cases z with
 | loc i => unfold upd; rw [if_neg (fun e => by cases e)]; rfl
 | bor i =>
  show ((σ.b.set k o')[i]?).map Obj.up = upd (C.heap σ) (.bor k) o' (.bor i)
  unfold upd
  by_cases hi : i = k
  ·subst hi; simp [hlt, hup]
  rw [if_neg (fun e => hi (by cases e; rfl)), List.getElem?_set_ne (Ne.symm hi)]; rfl
 | up z => unfold upd; rw [if_neg (fun e => by cases e)]; rfl

theorem callK_retV_loc {C : Ctx} {σ : St} {K KP : St → AV → Prop} {k : Nat} {o : Obj} (hk : look k σ.l = some o) {P : AV → Obj → Nat → Prop} (h : ∀ v o' tk', σ.tk ≤ tk' → P v o' tk' → K ⟨σ.env, setl k o' σ.l, σ.b, σ.O, tk'⟩ v) : CallK C σ K KP (RetV (C.heap σ) (.loc k) σ.tk P) :=
 ⟨fun v' O' tk' ⟨v, o', h1, h2, h3, h4⟩ => by
  cases h1
  exact ⟨⟨σ.env, setl k o' σ.l, σ.b, σ.O, tk'⟩, rfl, by rw [h2]; exact upd_loc hk, rfl, rfl, h _ _ _ h3 h4⟩, fun v O' tk' ⟨_, _, h2, _⟩ => (by cases h2), fun ob O' tk' ⟨_, _, h2, _⟩ => (by cases h2)⟩

theorem callK_retV_bor {C : Ctx} {σ : St} {K KP : St → AV → Prop} {k : Nat} {o : Obj} (hk : σ.b[k]? = some o) {P : AV → Obj → Nat → Prop} (hup : ∀ v o' tk', P v o' tk' → o'.up = o') (h : ∀ v o' tk', σ.tk ≤ tk' → P v o' tk' → K ⟨σ.env, σ.l, σ.b.set k o', σ.O, tk'⟩ v) : CallK C σ K KP (RetV (C.heap σ) (.bor k) σ.tk P) :=
 ⟨fun v' O' tk' ⟨v, o', h1, h2, h3, h4⟩ => by
  cases h1
  exact ⟨⟨σ.env, σ.l, σ.b.set k o', σ.O, tk'⟩, rfl, by rw [h2]; exact upd_bor hk (hup _ _ _ h4), rfl, by simp, h _ _ _ h3 h4⟩, fun v O' tk' ⟨_, _, h2, _⟩ => (by cases h2), fun ob O' tk' ⟨_, _, h2, _⟩ => (by cases h2)⟩

theorem out_same {bor : List ID} {b : List Obj} {O : Heap} (h : Bor O bor b) : OB bor b O = O := by
 funext x
 by_cases hx : x ∈ bor
 ·obtain ⟨k, hk⟩ := List.mem_iff_getElem?.1 hx
  obtain ⟨o, h1, h2, _⟩ := h.at_ k x hk
  rw [OB_get h.nd h.len hk h1, h2]
 exact OB_not hx


def nrm0 : AV → AV
 | .imm _ _ f [] => .imm 0 0 f []
 | v => v
def nrm1 : AV → AV
 | .agg cs => .agg (cs.map nrm0)
 | v => nrm0 v
def nrm2 : AV → AV
 | .tup vs => .tup (vs.map nrm1)
 | v => nrm1 v

theorem nrm0_ne {v : AV} (h : ∀ a b f, v ≠ .imm a b f []) : nrm0 v = v := by
 unfold nrm0
 split
 ·exact absurd rfl (h _ _ _)
 rfl

theorem nrm0_rep {S : Sit} {v v' : AV} {u : Value} (h : RepC S v u) (e : nrm0 v' = nrm0 v) : RepC S v' u := by
 by_cases hv : ∃ a b f, v = .imm a b f []
 ·obtain ⟨a, b, f, rfl⟩ := hv
  by_cases hv' : ∃ a b f, v' = .imm a b f []
  ·obtain ⟨a', b', f', rfl⟩ := hv'
   simp only [nrm0, AV.imm.injEq, true_and] at e
   obtain ⟨rfl, _⟩ := e
   cases h with
   | imm0 _ _ _ ad c hf hm => exact .imm0 _ _ _ ad c hf hm
   | imm _ _ _ _ _ _ _ _ hne => exact absurd rfl hne
  rw [nrm0_ne (fun a b f q => hv' ⟨a, b, f, q⟩)] at e
  exact absurd ⟨_, _, _, e⟩ hv'
 rw [nrm0_ne (fun a b f q => hv ⟨a, b, f, q⟩)] at e
 by_cases hv' : ∃ a b f, v' = .imm a b f []
 ·obtain ⟨a', b', f', rfl⟩ := hv'
  exact absurd ⟨_, _, _, e.symm⟩ hv
 rw [nrm0_ne (fun a b f q => hv' ⟨a, b, f, q⟩)] at e
 rw [e]; exact h

theorem nrm0_d1 {v v' : AV} (e : nrm0 v' = nrm0 v) (h : v.d1 = true) : v'.d1 = true := by
 by_cases hv : ∃ a b f, v = .imm a b f []
 ·obtain ⟨a, b, f, rfl⟩ := hv
  by_cases hv' : ∃ a b f, v' = .imm a b f []
  ·obtain ⟨a', b', f', rfl⟩ := hv'; rfl
  rw [nrm0_ne (fun a b f q => hv' ⟨a, b, f, q⟩)] at e
  rw [e]; rfl
 rw [nrm0_ne (fun a b f q => hv ⟨a, b, f, q⟩)] at e
 by_cases hv' : ∃ a b f, v' = .imm a b f []
 ·obtain ⟨a', b', f', rfl⟩ := hv'; rfl
 rw [nrm0_ne (fun a b f q => hv' ⟨a, b, f, q⟩)] at e
 rw [e]; exact h

theorem map_same {f g : AV → AV} {l l' : List AV} (e : l'.map f = l.map g) {j : Nat} {x' : AV} (h : l'[j]? = some x') : ∃ x, l[j]? = some x ∧ f x' = g x := by
 have h1 : (l'.map f)[j]? = some (f x') := by rw [List.getElem?_map, h]; rfl
 rw [e, List.getElem?_map] at h1
 obtain ⟨x, q1, q2⟩ := Option.map_eq_some_iff.1 h1
 exact ⟨x, q1, q2.symm⟩
theorem map_len {f g : AV → AV} {l l' : List AV} (e : l'.map f = l.map g) : l'.length = l.length := by
 have := congrArg List.length e; simpa using this

theorem nrm0_agg {v : AV} {cs : List AV} (h : nrm0 v = .agg cs) : v = .agg cs := by
 unfold nrm0 at h
 split at h
 ·cases h
 exact h
theorem nrm0_tup {v : AV} {cs : List AV} (h : nrm0 v = .tup cs) : v = .tup cs := by
 unfold nrm0 at h
 split at h
 ·cases h
 exact h

theorem nrm1_na {v : AV} (h : ∀ cs, v ≠ .agg cs) : nrm1 v = nrm0 v := by
 unfold nrm1
 split
 ·exact absurd rfl (h _)
 rfl
theorem nrm2_nt {v : AV} (h : ∀ cs, v ≠ .tup cs) : nrm2 v = nrm1 v := by
 unfold nrm2
 split
 ·exact absurd rfl (h _)
 rfl
theorem nrm1_agg {v : AV} {cs : List AV} (h : nrm1 v = .agg cs) : ∃ cs', v = .agg cs' := by
 cases v with
 | agg cs' => exact ⟨cs', rfl⟩
 | _ => exact absurd (nrm0_agg ((nrm1_na (fun _ h => by cases h)).symm.trans h)) (fun h => by cases h)
theorem nrm2_tup {v : AV} {cs : List AV} (h : nrm2 v = .tup cs) : ∃ cs', v = .tup cs' := by
 by_cases hv : ∃ cs', v = .tup cs'
 ·exact hv
 rw [nrm2_nt (fun cs q => hv ⟨cs, q⟩)] at h
 by_cases hv2 : ∃ cs', v = .agg cs'
 ·obtain ⟨cs', rfl⟩ := hv2; cases h
 rw [nrm1_na (fun cs q => hv2 ⟨cs, q⟩)] at h
 exact absurd ⟨_, nrm0_tup h⟩ hv

theorem nrm1_rep {S : Sit} {v v' : AV} {u : Value} (h : RepC S v u) (e : nrm1 v' = nrm1 v) : RepC S v' u := by
 by_cases hv : ∃ cs, v = .agg cs
 ·obtain ⟨cs, rfl⟩ := hv
  have e : nrm1 v' = .agg (cs.map nrm0) := e
  obtain ⟨cs', rfl⟩ := nrm1_agg e
  have e : AV.agg (cs'.map nrm0) = .agg (cs.map nrm0) := e
  injection e with e
  cases h with
  | agg _ us hl hs h =>
   exact .agg _ us (hl.trans (map_len e).symm) (fun j x hj => let ⟨y, q1, q2⟩ := map_same e hj; nrm0_d1 q2 (hs j y q1)) (fun j x hj => let ⟨y, q1, q2⟩ := map_same e hj; nrm0_rep (h j y q1) q2)
 have q := nrm1_na (v := v) fun cs q => hv ⟨cs, q⟩
 by_cases hv' : ∃ cs, v' = .agg cs
 ·obtain ⟨cs', rfl⟩ := hv'
  rw [q] at e
  have e : AV.agg (cs'.map nrm0) = nrm0 v := e
  exact absurd ⟨_, nrm0_agg e.symm⟩ hv
 rw [q, nrm1_na (v := v') fun cs q => hv' ⟨cs, q⟩] at e
 exact nrm0_rep h e

theorem nrm2_rep {S : Sit} {v v' : AV} {u : Value} (h : RepC S v u) (e : nrm2 v' = nrm2 v) : RepC S v' u := by
 by_cases hv : ∃ cs, v = .tup cs
 ·obtain ⟨cs, rfl⟩ := hv
  have e : nrm2 v' = .tup (cs.map nrm1) := e
  obtain ⟨cs', rfl⟩ := nrm2_tup e
  have e : AV.tup (cs'.map nrm1) = .tup (cs.map nrm1) := e
  injection e with e
  cases h with
  | tup _ us hl h =>
   exact .tup _ us (hl.trans (map_len e).symm) (fun j x hj => let ⟨y, q1, q2⟩ := map_same e hj; nrm1_rep (h j y q1) q2)
 have q := nrm2_nt (v := v) fun cs q => hv ⟨cs, q⟩
 by_cases hv' : ∃ cs, v' = .tup cs
 ·obtain ⟨cs', rfl⟩ := hv'
  have e : AV.tup (cs'.map nrm1) = nrm2 v := e
  exact absurd (nrm2_tup e.symm) hv
 rw [q, nrm2_nt (v := v') fun cs q => hv' ⟨cs, q⟩] at e
 exact nrm1_rep h e

theorem fin_x {C : Ctx} {Γ : TTab} (hG : GOK C.P Γ) {σ : St} {fn : Func} {rs : List ResultVar} (hrs : fn.results = rs.toArray) {vs : List AV} (hv : ares Γ (C.heap σ) σ.env rs = some vs) (hc : vs.all outc = true) {v' : AV} (he : nrm2 v' = nrm2 (outOf vs))
  {R : Out → Heap → Nat → Prop} (h : R (.ret v') (C.out σ) σ.tk) : Results C fn R σ := by
 intro a w S hat
 obtain ⟨u, w', S', σ', out, h1, h2, h3, h4, h5⟩ := fin_ret hG hrs hv hc (R := fun out O tk => out = .ret (outOf vs) ∧ O = C.out σ ∧ tk = σ.tk) ⟨rfl, rfl, rfl⟩ a w S hat
 obtain ⟨rfl, e2, e3⟩ := h5
 obtain ⟨u', q1, q2⟩ := h4
 exact ⟨u, w', S', σ', .ret v', h1, h2, h3, ⟨u', q1, nrm2_rep q2 he⟩, by rw [e2, e3]; exact h⟩

theorem fin_sub {C : Ctx} {σ σ' : St} {fn : Func} {R : Out → Heap → Nat → Prop} (hs : Sub C σ σ') (h : Results C fn R σ') : Results C fn R σ := fun a w S hat => by
 obtain ⟨S', h1, _⟩ := hs a w S hat
 exact h a w S' h1

theorem nrm1_cases {v v' : AV} (e : nrm1 v' = nrm1 v) : v' = v ∨ (∃ a b f, v = .imm a b f []) ∧ (∃ a b f, v' = .imm a b f []) ∨ (∃ cs, v = .agg cs) ∧ (∃ cs, v' = .agg cs) := by
 by_cases hv : ∃ cs, v = .agg cs
 ·obtain ⟨cs, rfl⟩ := hv
  have e : nrm1 v' = .agg (cs.map nrm0) := e
  exact .inr (.inr ⟨⟨_, rfl⟩, nrm1_agg e⟩)
 have q := nrm1_na (v := v) fun cs q => hv ⟨cs, q⟩
 by_cases hv' : ∃ cs, v' = .agg cs
 ·obtain ⟨cs', rfl⟩ := hv'
  rw [q] at e
  have e : AV.agg (cs'.map nrm0) = nrm0 v := e
  exact absurd ⟨_, nrm0_agg e.symm⟩ hv
 rw [q, nrm1_na (v := v') fun cs q => hv' ⟨cs, q⟩] at e
 by_cases h1 : ∃ a b f, v = .imm a b f []
 ·by_cases h2 : ∃ a b f, v' = .imm a b f []
  ·exact .inr (.inl ⟨h1, h2⟩)
  rw [nrm0_ne (fun a b f q => h2 ⟨a, b, f, q⟩)] at e
  obtain ⟨a, b, f, rfl⟩ := h1
  exact absurd ⟨_, _, _, e⟩ h2
 rw [nrm0_ne (v := v) (fun a b f q => h1 ⟨a, b, f, q⟩)] at e
 by_cases h2 : ∃ a b f, v' = .imm a b f []
 ·obtain ⟨a, b, f, rfl⟩ := h2
  exact absurd ⟨_, _, _, e.symm⟩ h1
 rw [nrm0_ne (fun a b f q => h2 ⟨a, b, f, q⟩)] at e
 exact .inl e

theorem arg_same {S : Sit} {v v' : AV} {u : Value} (h : Arg S v u) (e : nrm1 v' = nrm1 v) : Arg S v' u := by
 rcases nrm1_cases e with rfl | ⟨⟨a, b, f, rfl⟩, a', b', f', rfl⟩ | ⟨⟨cs, rfl⟩, cs', rfl⟩
 ·exact h
 ·exact nrm1_rep (v := .imm a b f []) h e
 exact nrm1_rep (v := .agg cs) h e

theorem tch_same : ∀ {l l' : List AV}, l'.map nrm1 = l.map nrm1 → tch l' = tch l
 | [], [], _ => rfl
 | [], _ :: _, h => by cases h
 | _ :: _, [], h => by cases h
 | v :: l, v' :: l', h => by
  simp only [List.map_cons, List.cons.injEq] at h
  have ih := tch_same h.2
  rcases nrm1_cases h.1 with rfl | ⟨⟨a, b, f, rfl⟩, a', b', f', rfl⟩ | ⟨⟨cs, rfl⟩, cs', rfl⟩
  ·unfold tch
   split <;> simp [ih]
  ·exact ih
  exact ih

theorem ACalls.args {P : Program} {f : FuncId} {args' args : List AV} {O : Heap} {tk : Nat} {R : Out → Heap → Nat → Prop} (e : args'.map nrm1 = args.map nrm1) (h : ACalls P f args' O tk R) : ACalls P f args O tk R :=
 ⟨h.1, fun S us h1 h2 h3 hi h4 h5 h6 => h.2 S us h1 h2 h3 hi (by rw [tch_same e]; exact h4) (by rw [h5, map_len e]) fun j v' hj => let ⟨v, q1, q2⟩ := map_same e hj; arg_same (h6 j v q1) q2⟩

end Go.Am

/- The mirror's ground, second part: strings, bytes, the greater of two, panics. -/
namespace Go.Am
open Go

theorem strAdd_step {C : Ctx} {σ : St} {o : Oper} {T T' : TypeId} {x y : Operand} (ho : o.op = .binOp .add T x y T') {p q : ByteArray} (hx : oev σ.env x = some (.str p)) (hy : oev σ.env y = some (.str q)) (hs : p.size + q.size ≤ 9223372036854775807) :
  Pu C o σ (.str (p ++ q)) := by
 intro a w S hat
 have rx := rep_str (oev_rep hat hx)
 have ry := rep_str (oev_rep hat hy)
 refine ⟨.string (p ++ q), fun w1 => ?_, .clo (.str _)⟩
 unfold execOp
 have := run_string_add_sum (P := C.P) w1 p q hs
 simp [ho, rx, ry, binOp, eqGuard, this]

def byteAt (s : ByteArray) (i : Int) : Option Int := if h : 0 ≤ i ∧ i < s.size then some ((s[i.toNat]'(by omega)).toNat : Int) else none

theorem strIndex_step {C : Ctx} {Γ : TTab} (hG : GOK C.P Γ) {σ : St} {o : Oper} {T : TypeId} {x y : Operand} (ho : o.op = .index T x y) {p : ByteArray} {k : IntKind} {i b : Int} (hx : oev σ.env x = some (.str p)) (hy : oev σ.env y = some (.int k i))
  {t : TI} (hT : look T Γ = some t) (hd : t.desc = .string) (hb : byteAt p i = some b) : Pu C o σ (.int .u8 b) := by
 intro a w S hat
 have rx := rep_str (oev_rep hat hx)
 have ry := rep_int (oev_rep hat hy)
 have hU := (hG T t hT).und
 rw [hd] at hU
 unfold byteAt at hb
 split at hb
 ·rename_i h
  cases hb
  refine ⟨.int .u8 ((p[i.toNat]'(by omega)).toNat : Int), fun w1 => ?_, .clo (.int _ _)⟩
  unfold execOp
  have := run_index_string (P := C.P) w1 T p k i hU
  rw [dif_pos h] at this
  simp [ho, rx, ry, this]
 cases hb

def strSub (s : ByteArray) (i j : Int) : Option ByteArray := if 0 ≤ i ∧ i ≤ j ∧ j ≤ s.size then some (s.extract i.toNat j.toNat) else none

def bytesOf (xs : List Int) : ByteArray := xs.foldl (fun r n => r.push (UInt8.ofNat n.toNat)) ByteArray.empty

theorem bytesStr_rd {C : Ctx} {Γ : TTab} (hG : GOK C.P Γ) {σ : St} {o : Oper} {T T' e : TypeId} {x : Operand} (ho : o.op = .convert T T' x) {p : AV} (hx : oev σ.env x = some p) {es : List (List AV)} (hq : elems σ p = some es) {xs : List Int} (hes : es = xs.map fun n => [AV.int .u8 n]) (hne : xs ≠ [])
  {t t' te : TI} (hT : look T Γ = some t) (hd : t.desc = .slice e) (he : look e Γ = some te) (hde : te.desc = .int .u8) (hT' : look T' Γ = some t') (hd' : t'.desc = .string) : Rd C [] o σ (.str (bytesOf xs)) := by
 intro a w S hat _
 have hU := (hG T t hT).und
 rw [hd] at hU
 have hE := (hG e te he).und
 rw [hde] at hE
 have hU' := (hG T' t' hT').und
 rw [hd'] at hU'
 obtain ⟨ad, c, f, hu, hl, hm, hc⟩ := elems_rep (sz := 1) hat (oev_rep hat hx) hq (fun e he => by subst hes; simp at he; obtain ⟨n, _, rfl⟩ := he; rfl)
 obtain ⟨b, off, rfl, hcell⟩ := hc (by subst hes; simpa using hne)
 refine ⟨.string (bytesOf xs), fun w1 hw1 => ?_, .clo (.str _)⟩
 have hlen : es.length = xs.length := by subst hes; simp
 have key : ∀ j v, (xs.map (Value.int .u8))[j]? = some v → w1.cell? ((⟨b, off, none⟩ : Addr).add j) = some v := by
  intro j v hj
  rw [List.getElem?_map] at hj
  obtain ⟨n, hn, rfl⟩ := Option.map_eq_some_iff.1 hj
  obtain ⟨_, q1, q2⟩ := hcell j [.int .u8 n] 0 (.int .u8 n) (by subst hes; simp [hn]) rfl
  have hf : f j 0 = .int .u8 n := by
   generalize f j 0 = u at q2
   cases q2; rfl
  rw [hf] at q1
  rw [add_off]
  have hblk : b < w.heap.size := by
   simp only [World.cell?] at q1
   by_cases hb : b < w.heap.size
   ·exact hb
   simp [Array.getElem?_eq_none (Nat.le_of_not_lt hb)] at q1
  have hh := hw1.2 b (by rw [hat.w]; exact hblk) fun _ h => by cases h
  rw [hat.w] at hh
  refine cell_of_eq hh ?_
  rw [show off + j = off + (j * 1 + 0) by omega]; exact q1
 have hload := run_loadCells_list (P := C.P) w1 ⟨b, off, none⟩ (xs.map (Value.int .u8)) key
 rw [List.length_map] at hload
 have h2 := run_bytesToString (P := C.P) w1 ⟨b, off, none⟩ xs.length c xs hload
 unfold execOp
 rw [hlen] at hu
 simp only [ho, hu]
 rw [Sem.run_bind, run_convert_bytes_string (P := C.P) w1 T T' e _ _ _ hU hE hU', h2]
 rfl

theorem run_panic {C : Ctx} {Q : AEx → St → Prop} {ks : List AItem} {σ : St} {all : Array Oper} {o : Oper} {rest : List Oper} (hg : o.guard = none) {x : Operand} (ho : o.op = .panic x) {t : TypeId} {v : AV} (hx : oev σ.env x = some (.iface t v)) 
  (h : Run C Q ks (.pan (.iface t v)) { σ with env := [] }) : Run C Q (.ops all (o :: rest) :: ks) .normal σ := by
 intro a w S hat
 refine wpList_plain hg fun K hK => ?_
 have hr := oev_rep hat hx
 have hc : RepC S (.iface t v) (a.eval x) := by
  generalize a.eval x = u at hr
  cases hr with
  | clo h => exact h
 have hw := hat.w
 subst hw
 unfold Oper.wp
 obtain ⟨u, hu⟩ : ∃ u, a.eval x = .iface t u := by
  generalize a.eval x = u at hc
  cases hc with
  | iface _ _ u h => exact ⟨u, rfl⟩
 have : (execOp a.eval o).run C.P S.w = .halt (.panic (.iface t u)) S.w := by
  unfold execOp
  simp only [ho, hu]
  rw [Sem.run_bind, run_panic_iface]
  rfl
 rw [this]
 rw [hu] at hc
 exact ⟨S, { σ with env := [] }, .iface t v, .iface t u, rfl, hat.weaken [] (fun i v hv => by simp [look] at hv), rfl, hc, h⟩

end Go.Am

/- The mirror's ground, third part: proofs and expressions; the parts of trees; what memory a tree lies in; what results stand for. -/
namespace Go.Am
open Go

inductive Pf where
 | mk (kind n : Int) (forms : List F) (kids : List Pf)

inductive LP where
 | mk (kind n : Int) (q1 : Nat) (f1 : Bool) (fs : List LF) (q : Nat) (f : Bool) (kids : List LP)

mutual
def LP.cells : LP → List AV
 | .mk k n q1 f1 fs q f ks => [.int .i64 k, .int .i64 n, .imm q1 3 f1 (fcellss fs), .imm q 4 f (pcellss ks)]
def pcellss : List LP → List (List AV)
 | [] => []
 | t :: r => t.cells :: pcellss r
end

mutual
def LP.er : LP → Pf
 | .mk k n _ _ fs _ _ ks => .mk k n (fers fs) (pers ks)
def pers : List LP → List Pf
 | [] => []
 | t :: r => t.er :: pers r
end

theorem pcellss_map : ∀ ks : List LP, pcellss ks = ks.map LP.cells
 | [] => by simp [pcellss]
 | t :: r => by simp [pcellss, pcellss_map r]
theorem pcellss_length (ks : List LP) : (pcellss ks).length = ks.length := by simp [pcellss_map]
theorem LP.ind {p : LP → Prop} (h : ∀ k n q1 f1 fs q f ks, (∀ t ∈ ks, p t) → p (.mk k n q1 f1 fs q f ks)) : ∀ t, p t
 | .mk k n q1 f1 fs q f ks => h k n q1 f1 fs q f ks fun t _ => LP.ind h t
theorem Pf.ind {p : Pf → Prop} (h : ∀ k n fs ks, (∀ t ∈ ks, p t) → p (.mk k n fs ks)) : ∀ t, p t
 | .mk k n fs ks => h k n fs ks fun t _ => Pf.ind h t

def T.kind : T → Int | .mk k _ _ _ => k
def T.n : T → Int | .mk _ n _ _ => n
def T.name : T → ByteArray | .mk _ _ s _ => s
def T.kids : T → List T | .mk _ _ _ ks => ks
def F.kind : F → Int | .mk k _ _ => k
def F.n : F → Int | .mk _ n _ => n
def F.kids : F → List F | .mk _ _ ks => ks
def Pf.kind : Pf → Int | .mk k _ _ _ => k
def Pf.n : Pf → Int | .mk _ n _ _ => n
def Pf.forms : Pf → List F | .mk _ _ fs _ => fs
def Pf.kids : Pf → List Pf | .mk _ _ _ ks => ks

theorem tlen (ks : List LT) : (cellss ks).length = (ers ks).length := by rw [cellss_length, ers_length]
theorem tidx {ks : List LT} {i : Int} {x : T} (h : idx (ers ks) i = some x) : ∃ k n s q f ks', x = .mk k n s (ers ks') ∧ (cellss ks)[i.toNat]? = some [.int .i64 k, .int .i64 n, .str s, .imm q 4 f (cellss ks')] ∧ ((i.toNat : Nat) : Int) = i := by
 rw [ers_map] at h
 obtain ⟨⟨k, n, s, q, f, ks'⟩, h1, h2, h3⟩ := idx_map h
 exact ⟨k, n, s, q, f, ks', by rw [← h2, LT.er], cellss_get h1, h3⟩
theorem cellss_app (a b : List LT) : cellss a ++ cellss b = cellss (a ++ b) := by simp [cellss_map]
theorem ers_app (a b : List LT) : ers a ++ ers b = ers (a ++ b) := by simp [ers_map]
theorem cellss_sz (ks : List LT) : ∀ e ∈ cellss ks, e.length = 4 := by
 intro e he; rw [cellss_map] at he; obtain ⟨t, _, rfl⟩ := List.mem_map.1 he; cases t; rfl
mutual
def LT.toks : LT → List Nat
 | .mk _ _ _ _ _ [] => []
 | .mk _ _ _ q _ (t :: r) => q :: (t.toks ++ ttoks r)
def ttoks : List LT → List Nat
 | [] => []
 | t :: r => t.toks ++ ttoks r
end
mutual
def LF.toks : LF → List Nat
 | .mk _ _ _ _ [] => []
 | .mk _ _ q _ (t :: r) => q :: (t.toks ++ ftoks r)
def ftoks : List LF → List Nat
 | [] => []
 | t :: r => t.toks ++ ftoks r
end
def fstoks (q : Nat) (fs : List LF) : List Nat := match fs with
 | [] => []
 | _ => q :: ftoks fs
mutual
def LP.toks : LP → List Nat
 | .mk _ _ q1 _ fs _ _ [] => fstoks q1 fs
 | .mk _ _ q1 _ fs q _ (t :: r) => fstoks q1 fs ++ q :: (t.toks ++ ptoks r)
def ptoks : List LP → List Nat
 | [] => []
 | t :: r => t.toks ++ ptoks r
end
def tstoks (q : Nat) (ks : List LT) : List Nat := match ks with
 | [] => []
 | _ => q :: ttoks ks
def pstoks (q : Nat) (ks : List LP) : List Nat := match ks with
 | [] => []
 | _ => q :: ptoks ks

theorem LT.toks_eq (k n : Int) (s : ByteArray) (q : Nat) (f : Bool) (ks : List LT) : (LT.mk k n s q f ks).toks = tstoks q ks := by
 cases ks <;> simp [LT.toks, tstoks, ttoks]
theorem LF.toks_eq (k n : Int) (q : Nat) (f : Bool) (ks : List LF) : (LF.mk k n q f ks).toks = fstoks q ks := by
 cases ks <;> simp [LF.toks, fstoks, ftoks]
theorem LP.toks_eq (k n : Int) (q1 : Nat) (f1 : Bool) (fs : List LF) (q : Nat) (f : Bool) (ks : List LP) : (LP.mk k n q1 f1 fs q f ks).toks = fstoks q1 fs ++ pstoks q ks := by
 cases ks <;> simp [LP.toks, pstoks, ptoks]
theorem ttoks_app (a b : List LT) : ttoks (a ++ b) = ttoks a ++ ttoks b := by
 induction a with
 | nil => rfl
 | cons t r ih => simp [ttoks, ih]
def Fr (lo hi : Nat) (l : List Nat) : Prop := l.Nodup ∧ ∀ x ∈ l, lo ≤ x ∧ x < hi

theorem Fr.nil (lo hi : Nat) : Fr lo hi [] := ⟨List.nodup_nil, fun x h => by cases h⟩
theorem Fr.mono {lo hi lo' hi' : Nat} {l : List Nat} (h : Fr lo hi l) (h1 : lo' ≤ lo) (h2 : hi ≤ hi') : Fr lo' hi' l := ⟨h.1, fun x hx => ⟨Nat.le_trans h1 (h.2 x hx).1, Nat.lt_of_lt_of_le (h.2 x hx).2 h2⟩⟩
theorem Fr.app {lo mi hi : Nat} {a b : List Nat} (h : Fr lo mi a) (k : Fr mi hi b) (h1 : lo ≤ mi) (h2 : mi ≤ hi) : Fr lo hi (a ++ b) := by
 refine ⟨List.nodup_append.2 ⟨h.1, k.1, fun x hx y hy e => ?_⟩, fun x hx => ?_⟩
 ·have := (h.2 x hx).2; have := (k.2 y hy).1; omega
 rcases List.mem_append.1 hx with hx | hx
 ·exact ⟨(h.2 x hx).1, Nat.lt_of_lt_of_le (h.2 x hx).2 h2⟩
 exact ⟨Nat.le_trans h1 (k.2 x hx).1, (k.2 x hx).2⟩
theorem Fr.top {lo hi q : Nat} {a : List Nat} (h : Fr lo q a) (h1 : lo ≤ q) (h2 : q < hi) : Fr lo hi (q :: a) := by
 refine ⟨List.nodup_cons.2 ⟨fun hx => by have := (h.2 q hx).2; omega, h.1⟩, fun x hx => ?_⟩
 rcases List.mem_cons.1 hx with rfl | hx
 ·exact ⟨h1, h2⟩
 exact ⟨(h.2 x hx).1, by have := (h.2 x hx).2; omega⟩
theorem Fr.tstop {lo hi q : Nat} {ks : List LT} (h : Fr lo q (ttoks ks)) (h1 : lo ≤ q) (h2 : q < hi) : Fr lo hi (tstoks q ks) := by
 cases ks with
 | nil => exact .nil _ _
 | cons t r => exact h.top h1 h2
def pad {α : Type} (n : Nat) (z : α) (a : List α) : List α := a ++ List.replicate (n - a.length) z
def zT : LT := .mk 0 0 ⟨#[]⟩ 0 true []
def zF : LF := .mk 0 0 0 true []
def zP : LP := .mk 0 0 0 true [] 0 true []
theorem pad_full {α : Type} {n : Nat} {z : α} {a : List α} (h : a.length = n) : pad n z a = a := by simp [pad, h]
theorem pad_len {α : Type} {n : Nat} {z : α} {a : List α} (h : a.length ≤ n) : (pad n z a).length = n := by simp [pad]; omega
theorem pad_set {α : Type} {n : Nat} {z t : α} {a : List α} (h : a.length < n) : (pad n z a).set a.length t = pad n z (a ++ [t]) := by
 unfold pad
 obtain ⟨m, hm⟩ : ∃ m, n - a.length = m + 1 := ⟨n - a.length - 1, by omega⟩
 rw [hm, List.replicate_succ, List.set_append_right (h := Nat.le_refl _)]
 simp only [Nat.sub_self, List.set_cons_zero, List.length_append, List.length_cons, List.length_nil, Nat.zero_add, List.append_assoc, List.singleton_append]
 congr 3
 omega
theorem padT_mk (n : Nat) : List.replicate n zT.cells = cellss (pad n zT []) := by simp [pad, cellss_map]
theorem padT_full {n : Nat} {a : List LT} (h : (ers a).length = n) : cellss (pad n zT a) = cellss a := by rw [pad_full (by rw [← h, ers_length])]
theorem padT_len {n : Nat} {a : List LT} {i : Int} (h : i = ((ers a).length : Int) ∧ (ers a).length < n) : i.toNat < (cellss (pad n zT a)).length := by
 rw [ers_length] at h; rw [cellss_length, pad_len (by omega)]; omega
theorem padT_get {n : Nat} {a : List LT} {i : Int} (h : i = ((ers a).length : Int) ∧ (ers a).length < n) : (cellss (pad n zT a))[i.toNat]? = some zT.cells := by
 rw [ers_length] at h; rw [cellss_map, h.1, Int.toNat_natCast, pad, List.map_append, List.map_replicate, List.getElem?_append_right (by simp), List.getElem?_replicate]; simp; omega
theorem padT_set {n : Nat} {a : List LT} {t : LT} {i : Int} (h : i = ((ers a).length : Int) ∧ (ers a).length < n) : (cellss (pad n zT a)).set i.toNat t.cells = cellss (pad n zT (a ++ [t])) := by
 rw [ers_length] at h; rw [cellss_map, cellss_map, ← pad_set h.2, h.1, Int.toNat_natCast, List.map_set]
theorem forceT (t : LT) : ∀ v ∈ t.cells, force v = some v := by cases t; intro v hv; simp only [LT.cells, List.mem_cons, List.not_mem_nil, or_false] at hv; rcases hv with rfl | rfl | rfl | rfl <;> rfl
theorem nat_of {i : Int} {n : Nat} {p : Prop} (h : i = (n : Int) ∧ p) : ((i.toNat : Nat) : Int) = i := by omega

theorem makePad_step {C : Ctx} {Γ : TTab} (hG : GOK C.P Γ) {σ : St} {o : Oper} {T e : TypeId} {x y : Operand} (ho : o.op = .makeSlice T x y) {i ie : TI} (hT : look T Γ = some i) (hd : i.desc = .slice e) (he : look e Γ = some ie)
  {d : Nat} (hfree : look d σ.l = none) {k k' : IntKind} {n : Nat} (hx : oev σ.env x = some (.int k n)) (hy : oev σ.env y = some (.int k' n)) (hb : n ≤ 1099511627776) (hby : ie.bytes ≤ 128) {es' : List (List AV)} (hes : List.replicate n ie.zero = es') :
  Step C [] o σ (.osl (.loc d)) ⟨σ.env, (d, ⟨e, ie.size, false, es'⟩) :: σ.l, σ.b, σ.O, σ.tk⟩ := by
 subst hes
 exact makeSlice_step hG ho hT hd he hfree hx hy (Nat.le_trans (Nat.mul_le_mul hby hb) (by decide)) (by have : maxLen = 9223372036854775807 := rfl; omega)

theorem indexOsl_step {C : Ctx} {Γ : TTab} (hG : GOK C.P Γ) {σ : St} {o : Oper} {T : TypeId} {x y : Operand} (ho : o.op = .indexAddr T x y) {k : Nat} {ob : Obj} {kk : IntKind} {i : Int}
  (hx : oev σ.env x = some (.osl (.loc k))) (hy : oev σ.env y = some (.int kk i)) (hk : look k σ.l = some ob) (hi : ((i.toNat : Nat) : Int) = i) {t j : TI} {e : TypeId} (hT : look T Γ = some t) (hd : t.desc = .slice e) (he : look e Γ = some j) (hsz : ob.sz = j.size)
  (hlt : i.toNat < ob.es.length) : Pu C o σ (.optr (.loc k) i.toNat 0) := by
 rw [← hi] at hy
 exact indexAddr_step hG ho hx hy hT hd he (fun ob' h => by
  have h : look k σ.l = some ob' := h
  rw [hk] at h; cases h; exact hsz) (aindex_osl (o := ob) hk hlt)

theorem Fr.tcons {lo mi hi : Nat} {k n : Int} {s : ByteArray} {q : Nat} {f : Bool} {ks r : List LT} (h : Fr lo mi (tstoks q ks)) (h2 : Fr mi hi (ttoks r)) (l1 : lo ≤ mi) (l2 : mi ≤ hi) : Fr lo hi (ttoks (LT.mk k n s q f ks :: r)) := by
 simp only [ttoks, LT.toks_eq]; exact h.app h2 l1 l2
theorem Fr.tsnoc {lo mi hi : Nat} {a : List LT} {k n : Int} {s : ByteArray} {q : Nat} {f : Bool} {ks : List LT} (h : Fr lo mi (ttoks a)) (h2 : Fr mi hi (tstoks q ks)) (l1 : lo ≤ mi) (l2 : mi ≤ hi) : Fr lo hi (ttoks (a ++ [LT.mk k n s q f ks])) := by
 simp only [ttoks_app, ttoks, LT.toks_eq, List.append_nil]; exact h.app h2 l1 l2
theorem entS {bor : List ID} {v : AV} (h : cl v = true) : Ent bor v v := .same v h

theorem appendM_step {C : Ctx} {Γ : TTab} (hG : GOK C.P Γ) {σ : St} {op : Oper} {T e : TypeId} {x y : Operand} (ho : op.op = .call { callee := .builtin .append, args := #[x, y], argTypes := #[T, T] })
  {i ie : TI} (hT : look T Γ = some i) (hd : i.desc = .slice e) (he : look e Γ = some ie) {k : Nat} {o : Obj} {q : AV} {es2 : List (List AV)} (hx : oev σ.env x = some (.osl (.loc k))) (hy : oev σ.env y = some q)
  (hk : look k σ.l = some o) (hb : o.box = false) (hty : o.ty = e) (hsz : o.sz = ie.size) (hq : elems σ q = some es2) (hes2 : ∀ e ∈ es2, e.length = ie.size) {m n : Nat} (l1 : o.es.length = m) (l2 : es2.length = n)
  (hlen : m + n ≤ 1099511627776) (hby : ie.bytes ≤ 128) {es' : List (List AV)} (hes : o.es ++ es2 = es') :
  Step C [.loc k] op σ (.osl (.loc k)) ⟨subE k .jnk σ.env, setl k ⟨o.ty, o.sz, o.box, es'⟩ (subO k .jnk σ.l), σ.b, σ.O, σ.tk⟩ := by
 subst l1
 subst l2
 refine append_step' hG ho hT hd he hx hy hk hb hty hsz hq hes2 ?_ (by omega) hes
 exact Nat.le_trans (Nat.mul_le_mul hlen hby) (by decide)

def VT (fr : Bool) (lo hi : Nat) (r : T) (v : AV) : Prop := ∃ k n s q f ks, v = .agg [.int .i64 k, .int .i64 n, .str s, .imm q 4 f (cellss ks)] ∧ r = .mk k n s (ers ks) ∧ (fr = true → Fr lo hi (tstoks q ks))
def VTs (fr : Bool) (lo hi : Nat) (r : List T) (v : AV) : Prop := ∃ q f ks, v = .imm q 4 f (cellss ks) ∧ r = ers ks ∧ (fr = true → Fr lo hi (tstoks q ks))
end Go.Am

/- A variable that nobody writes any more; function values with captured variables; two pointers. -/
namespace Go.Am
open Go

inductive FrE (k : Nat) (cs : List AV) (env : List (Nat × AV)) : List (Nat × AV) → Prop
 | nil : FrE k cs env []
 | keep (i v r) (h : look i (subE k .jnk env) = some v) (t : FrE k cs env r) : FrE k cs env ((i, v) :: r)
 | ptr (i off r) (h : look i env = some (.optr (.loc k) 0 off)) (t : FrE k cs env r) : FrE k cs env ((i, .cptr (cs.drop off)) :: r)

theorem FrE.get {k : Nat} {cs : List AV} {env env' : List (Nat × AV)} (h : FrE k cs env env') : ∀ i v, look i env' = some v → look i (subE k .jnk env) = some v ∨ ∃ off, look i env = some (.optr (.loc k) 0 off) ∧ v = .cptr (cs.drop off) := by
 induction h with
 | nil => intro i v h; simp [look] at h
 | keep j v r h t ih =>
  intro i x hx
  simp only [look] at hx
  split at hx
  ·rename_i hb
   cases hx
   rw [Nat.eq_of_beq_eq_true hb]
   exact .inl h
  exact ih i x hx
 | ptr j off r h t ih =>
  intro i x hx
  simp only [look] at hx
  split at hx
  ·rename_i hb
   cases hx
   rw [Nat.eq_of_beq_eq_true hb]
   exact .inr ⟨off, h, rfl⟩
  exact ih i x hx

def cl0 : AV → Bool
 | .int .. => true
 | .bool _ => true
 | .str _ => true
 | .nilp => true
 | .cptr _ => true
 | .imm .. => true
 | .nilfn => true
 | .nilif => true
 | _ => false
def cl1 : AV → Bool
 | .fn _ a b => a.all cl0 && b.all cl0
 | v => cl0 v
theorem cl0_repc {S : Sit} {v : AV} {u : Value} (h : Rep S v u) (hv : cl0 v = true) : RepC S v u := by
 cases v with
 | cptr cs => exact rep_cptr h
 | int k n => exact cl_repc h rfl
 | bool b => exact cl_repc h rfl
 | str s => exact cl_repc h rfl
 | nilp => exact cl_repc h rfl
 | imm a b c d => exact cl_repc h rfl
 | nilfn => exact cl_repc h rfl
 | nilif => exact cl_repc h rfl
 | _ => cases hv
theorem cl1_repc {S : Sit} {v : AV} {u : Value} (h : Rep S v u) (hv : cl1 v = true) : RepC S v u := by
 cases v with
 | fn f a b =>
  have hab : a.all cl0 = true ∧ b.all cl0 = true := by simpa [cl1] using hv
  cases h with
  | clo h => exact h
  | fn _ _ _ us1 us2 l1 l2 h1 h2 =>
   exact .fn f a b us1 us2 l1 l2 (fun j x hj => cl0_repc (h1 j x hj) (List.all_eq_true.1 hab.1 x (List.mem_of_getElem? hj))) (fun j x hj => cl0_repc (h2 j x hj) (List.all_eq_true.1 hab.2 x (List.mem_of_getElem? hj)))
 | _ => exact cl0_repc h hv

theorem Sub.frbox {C : Ctx} {σ : St} {k : Nat} {ty : TypeId} {sz : Nat} {cs : List AV} (hk : look k σ.l = some ⟨ty, sz, true, [cs]⟩) (hc : cs.all cl1 = true) {env' : List (Nat × AV)} (henv : FrE k cs σ.env env') :
  Sub C σ ⟨env', dele k (subO k .jnk σ.l), σ.b, σ.O, σ.tk⟩ := by
 intro a w S hat
 obtain ⟨S', h1, h2, h3, hle, hcon⟩ := hat.dropL hk
 have hSk : S.O (.loc k) = some ⟨ty, sz, true, [cs]⟩ := by rw [hat.O]; exact hk
 obtain ⟨cur, q1, q2, q3, q4, q5⟩ := hat.sim.obj _ _ hSk
 refine ⟨S', ⟨h1.w, h1.O, h1.tk, h1.sim, fun i v hv => ?_, h1.nt, h1.defers, h1.ext, h1.new, h1.bl, h1.nd, h1.bb, h1.h0, h1.hl, h1.hu, h1.hv, h1.hf, h1.inv⟩, h2, h3⟩
 rcases henv.get i v hv with hq | ⟨off, hq, rfl⟩
 ·exact h1.env i v hq
 obtain ⟨u, hu, hr⟩ := hat.env i _ hq
 have hu2 := rep_optr hat.sim hSk hr
 refine ⟨u, hu, ?_⟩
 rw [hu2]
 refine .clo (.cptr _ (S.β (.loc k)) (0 * sz + off) (fun j => cur.getD (off + j) undef) hcon (fun j x hj => ?_) (fun j x hj => ?_) (fun j x hj => ?_))
 ·rw [List.getElem?_drop] at hj
  exact (q5 0 cs (off + j) x rfl hj).1
 ·rw [List.getElem?_drop] at hj
  obtain ⟨_, z, hz, _⟩ := q5 0 cs (off + j) x rfl hj
  rw [h2]
  unfold World.cell?
  rw [q1]
  have hz' : cur[off + j]? = some z := by simpa using hz
  simp [hz', Array.getD_eq_getD_getElem?, Nat.add_assoc]
 rw [List.getElem?_drop] at hj
 obtain ⟨_, z, hz, hr2, _⟩ := q5 0 cs (off + j) x rfl hj
 have hz' : cur[off + j]? = some z := by simpa using hz
 have := (cl1_repc hr2 (List.all_eq_true.1 hc x (List.mem_of_getElem? hj))).le hle
 simpa [hz', Array.getD_eq_getD_getElem?] using this

theorem ent_fn {bor : List ID} {f : Fn} {x y : AV} (h : Ent bor x y) : Ent bor (.fn f [] [x]) (.fn f [] [y]) :=
 .fn f [] [x] [] [y] rfl rfl (fun j a b h => by simp at h) fun j a b ha hb => by
  cases j with
  | zero => cases ha; cases hb; exact h
  | succ j => simp at ha

theorem ent_fn2 {bor : List ID} {f : Fn} {x y x2 y2 : AV} (h : Ent bor x y) (h2 : Ent bor x2 y2) : Ent bor (.fn f [] [x, x2]) (.fn f [] [y, y2]) :=
 .fn f [] [x, x2] [] [y, y2] rfl rfl (fun j a b h => by simp at h) fun j a b ha hb => by
  match j, ha, hb with
  | 0, ha, hb => cases ha; cases hb; exact h
  | 1, ha, hb => cases ha; cases hb; exact h2
  | j + 2, ha, _ => simp at ha

theorem alloc_new {C : Ctx} {Γ : TTab} (hG : GOK C.P Γ) {σ : St} {o : Oper} {T : TypeId} (ho : o.op = .alloc T) {d : Nat} (hfree : look d σ.l = none) {i : TI} (hT : look T Γ = some i) {a : Act} {w : World} {S : Sit} (hat : At C σ a w S) :
  ∃ u w' S', (execOp a.eval o).run C.P w = .ok (.value u) w' ∧ At C ⟨σ.env, (d, ⟨T, i.size, true, [i.zero]⟩) :: σ.l, σ.b, σ.O, σ.tk⟩ a w' S' ∧ Rep S' (.optr (.loc d) 0 0) u ∧ KeepW S S' [] ∧ S.w.heap.size ≤ S'.β (.loc d) ∧ (S'.O (.loc d)).isSome = true := by
 have hK := hG T i hT
 obtain ⟨ti, z, z1, z2, z3, z4, z5, z6⟩ := zero_rep hK S
 obtain ⟨S', hat', hmov, hβ, hO⟩ := hat.add hfree ⟨T, i.size, true, [i.zero]⟩ z.cells (by simp [z5, hK.zl]) (fun _ => ⟨rfl, by rw [z5, hK.zl]⟩) (fun e he => by simp at he; subst he; exact hK.zl)
  (fun k e j v hi hj => by
   have h0 : k = 0 := by have := (List.getElem?_eq_some_iff.1 hi).1; simp at this; omega
   subst h0
   simp at hi
   subst hi
   obtain ⟨q1, u, q2, q3⟩ := z6 j v hj
   exact ⟨q1, u, by simpa using q2, .clo q3, fun h => by cases h⟩) _ (.inr rfl)
 refine ⟨.pointer (some ⟨w.heap.size, 0, none⟩), _, S', ?_, hat', ?_, keep_alloc hmov (.inl (by rw [hat'.w, hat.w])), by rw [hβ, hat.w]; exact Nat.le_refl _, by rw [hO]; rfl⟩
 ·unfold execOp
  simp [ho, Instr.alloc, newVar, newRow, zeroValue, typeInfo, z1, z4]
 have := Rep.optr (S := S') (.loc d) 0 0 _ hO
 simpa [hβ] using this

def AOpN (C : Ctx) (all : Array Oper) (Q : AEx → St → Prop) (W : List ID) (fuel : Nat) (listed : Array Bool) (i : Nat) (σ : St) : Prop :=
 ∀ a w S, At C σ a w S → (∀ x ∈ W, (S.O x).isSome = true) → wpOp C.P all (QC C Q) i (fun a' w' => Held S W w' ∧ wpAnyH C.P .any all (QC C Q) (Held S W) fuel (listed.setIfInBounds i true) a' w') a w

section
variable {C : Ctx} {all : Array Oper} {Q : AEx → St → Prop} {W : List ID} {fuel : Nat} {listed : Array Bool} {σ : St}

theorem AOpN.of {i : Nat} (h : AOp C all Q W i (AAny C all Q W fuel (listed.setIfInBounds i true)) σ) : AOpN C all Q W fuel listed i σ := by
 intro a w S hat hW
 refine wpOp_mono (fun a' w' ⟨S', σ', h1, h2, h3⟩ => ?_) (h a w S hat hW)
 have hw := h1.w
 subst hw
 exact ⟨h2.1, wpAnyH_rebase (fun w1 hw1 => hw1.trans h2 hW) _ _ _ _ (h3 _ _ S' h1 fun x hx => (h2.2 x (hW x hx)).1)⟩

theorem AOpN.alloc {Γ : TTab} (hG : GOK C.P Γ) {i : Nat} {o : Oper} {d : Nat} (hi : all[i]? = some o) (hg : o.guard = none) (hd : o.dst = some d) (hn : d < C.nt) {T : TypeId} (ho : o.op = .alloc T) (hfree : look d σ.l = none) {ti : TI} (hT : look T Γ = some ti)
  (h : AAny C all Q (.loc d :: W) fuel (listed.setIfInBounds i true) (St.put ⟨σ.env, (d, ⟨T, ti.size, true, [ti.zero]⟩) :: σ.l, σ.b, σ.O, σ.tk⟩ d (.optr (.loc d) 0 0))) : AOpN C all Q W fuel listed i σ := by
 intro a w S hat hl
 obtain ⟨u, w', S', r1, e1, e2, e3, e4, e5⟩ := alloc_new hG ho hfree hT hat
 have hw := e1.w
 subst hw
 unfold wpOp
 simp only [hi, Region.wanted, hg, if_true]
 refine .inl ?_
 unfold Oper.wp
 rw [r1]
 simp only [Oper.upon, hd]
 have hreb : ∀ w1, Held S' (.loc d :: W) w1 → Held S W w1 := by
  intro w1 hw1
  refine ⟨Nat.le_trans e3.1.1 hw1.1, fun b hb hW => ?_⟩
  rw [hw1.2 b (Nat.lt_of_lt_of_le hb e3.1.1) ?_]
  ·exact e3.1.2 b hb fun x hm => by cases hm
  intro x hm e
  rcases List.mem_cons.1 hm with rfl | hm
  ·omega
  rcases (e3.2 x (hl x hm)).2 with q | q
  ·exact hW x hm (q ▸ e)
  omega
 refine ⟨e3.1.mono (fun _ h => by cases h), wpAnyH_rebase hreb _ _ _ _ (h _ _ S' (e1.put hn e2) fun x hm => ?_)⟩
 rcases List.mem_cons.1 hm with rfl | hm
 ·exact e5
 exact (e3.2 x (hl x hm)).1
end

def AV.nb : AV → Bool
 | .bool _ => false
 | _ => true
theorem ldok_nil {Γ : TTab} {H : Heap} {T : TypeId} {p v : AV} (h : aload Γ H T p = some v) : ldok [] p := by
 unfold aload at h
 split at h
 ·split at h
  ·rename_i hc
   cases p <;> first | exact List.not_mem_nil | exact trivial | cases hc
  cases h
 cases h
section
variable {C : Ctx} {Q : AEx → St → Prop} {ks : List AItem} {σ : St} {all : Array Oper} {o : Oper} {rest : List Oper} {v : AV} {d : Nat}
theorem mvL (hg : o.guard = none) {x : Operand} (ho : o.op = .move x) (hx : oev σ.env x = some v) (hd : o.dst = some d) (hn : d < C.nt) (h : Run C Q (.ops all rest :: ks) .normal (σ.put d v)) : Run C Q (.ops all (o :: rest) :: ks) .normal σ :=
 run_pu hg (move_step (.inl ho) hx) hd hn h
theorem mvR (hg : o.guard = none) {x : Operand} (ho : o.op = .assign x) (hx : oev σ.env x = some v) (hd : o.dst = some d) (hn : d < C.nt) (h : Run C Q (.ops all rest :: ks) .normal (σ.put d v)) : Run C Q (.ops all (o :: rest) :: ks) .normal σ :=
 run_pu hg (move_step (.inr ho) hx) hd hn h
theorem run_bin (hg : o.guard = none) {op : BinOp} {T T' : TypeId} {x y : Operand} (ho : o.op = .binOp op T x y T') {p q : AV} (hx : oev σ.env x = some p) (hy : oev σ.env y = some q) (h : abin op p q = some v) (hb : p.nb = true) (hd : o.dst = some d) (hn : d < C.nt)
  (hr : Run C Q (.ops all rest :: ks) .normal (σ.put d v)) : Run C Q (.ops all (o :: rest) :: ks) .normal σ :=
 run_pu hg (abin_step ho hx hy h (fun _ e => by rw [e] at hb; cases hb)) hd hn hr
theorem run_ld {Γ : TTab} (hG : GOK C.P Γ) (hg : o.guard = none) {T : TypeId} {x : Operand} (ho : o.op = .load T x) {p : AV} (hx : oev σ.env x = some p) (h : aload Γ (C.heap σ) T p = some v) (hd : o.dst = some d) (hn : d < C.nt)
  (hr : Run C Q (.ops all rest :: ks) .normal (σ.put d v)) : Run C Q (.ops all (o :: rest) :: ks) .normal σ :=
 run_rd hg (aload_rd hG ho hx h (ldok_nil h)) hd hn hr
theorem run_sr {id : Nat} {l : List Oper} {y : Code} (h : Run C Q (.ops l.toArray l :: .code y :: ks) .normal σ) : Run C Q (.code (.seq (.region id l.toArray false) y) :: ks) .normal σ := run_seq (run_region h)
end

end Go.Am
