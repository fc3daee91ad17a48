/- The mirror's ground: rules in the shape that printed walks use, and the words of printed functions. -/
import Derived.Test.YtklchmkanhpeeaaAmW
namespace Go.Am
open Go

/-! ### Words of printed functions -/

abbrev w64 (n : Int) : Int := IntKind.i64.wrap n

def idx {α : Type} (l : List α) (i : Int) : Option α := if 0 ≤ i then l[i.toNat]? else none

theorem idx_nat {α : Type} (l : List α) (i : Nat) : idx l (i : Int) = l[i]? := by
  unfold idx; simp

theorem idx_map {α β : Type} {f : α → β} {l : List α} {i : Int} {x : β} (h : idx (l.map f) i = some x) : ∃ a, l[i.toNat]? = some a ∧ f a = x ∧ ((i.toNat : Nat) : Int) = i := by
  unfold idx at h
  split at h
  · rename_i h0
    rw [List.getElem?_map] at h
    obtain ⟨a, h1, h2⟩ := Option.map_eq_some_iff.1 h
    exact ⟨a, h1, h2, by omega⟩
  · cases h

theorem ite_t {α : Type} {c : Prop} [Decidable c] {a b r : α} (h : c) (e : (if c then a else b) = r) : a = r := by rw [if_pos h] at e; exact e
theorem ite_f {α : Type} {c : Prop} [Decidable c] {a b r : α} (h : ¬ c) (e : (if c then a else b) = r) : b = r := by rw [if_neg h] at e; exact e
theorem bind_t {α β : Type} {x : Option α} {k : α → Option β} {r : β} (e : x.bind k = some r) : ∃ a, x = some a ∧ k a = some r := Option.bind_eq_some_iff.1 e
theorem some_t {α : Type} {a b : α} (e : some a = some b) : a = b := Option.some.inj e

/-- What the model asks of a size: else it says nothing. -/
def chk {α : Type} (p : Prop) [Decidable p] (k : Option α) : Option α := if p then k else none
theorem chk_t {α : Type} {p : Prop} [Decidable p] {k : Option α} {r : α} (e : chk p k = some r) : p ∧ k = some r := by
  unfold chk at e
  split at e
  · exact ⟨by assumption, e⟩
  · cases e

/-! ### Branches -/
section
variable {C : Ctx} {Q : AEx → St → Prop} {ks : List AItem} {σ : St} {all : Array Oper} {rest : List Oper}

theorem run_ifd {c : Operand} {x y : Code} {p : Prop} [Decidable p] {i : Nat} (hc : c = .tmp i) (hv : look i σ.env = some (.bool (decide p)))
    (ht : p → Run C Q (.code x :: ks) .normal σ) (hf : ¬ p → Run C Q (.code y :: ks) .normal σ) : Run C Q (.code (.cond c x y) :: ks) .normal σ :=
  run_if hc hv (fun h => ht (of_decide_eq_true h)) (fun h => hf (of_decide_eq_false h))

theorem run_ifb {c : Operand} {x y : Code} {b : Bool} {i : Nat} (hc : c = .tmp i) (hv : look i σ.env = some (.bool b))
    (ht : b = true → Run C Q (.code x :: ks) .normal σ) (hf : ¬ b = true → Run C Q (.code y :: ks) .normal σ) : Run C Q (.code (.cond c x y) :: ks) .normal σ :=
  run_if hc hv ht (fun h => hf (by rw [h]; exact fun e => by cases e))

theorem run_splitd {p : Prop} [Decidable p] {i : Nat} (hv : look i σ.env = some (.bool (decide p))) (ht : p → Run C Q (.ops all rest :: ks) .normal (σ.put i (.bool true))) (hf : ¬ p → Run C Q (.ops all rest :: ks) .normal (σ.put i (.bool false))) :
    Run C Q (.ops all rest :: ks) .normal σ := run_split hv (fun h => ht (of_decide_eq_true h)) (fun h => hf (of_decide_eq_false h))
theorem run_splitb {b : Bool} {i : Nat} (hv : look i σ.env = some (.bool b)) (ht : b = true → Run C Q (.ops all rest :: ks) .normal (σ.put i (.bool true))) (hf : ¬ b = true → Run C Q (.ops all rest :: ks) .normal (σ.put i (.bool false))) :
    Run C Q (.ops all rest :: ks) .normal σ := run_split hv ht (fun h => hf (by rw [h]; exact fun e => by cases e))
end

/-! ### Where roads meet -/
/-- What comes behind, named. -/
def jn {α β : Type} (k : α) (f : α → β) : β := f k
theorem jn_t {α β : Type} {k : α} {f : α → β} {r : β} (e : jn k f = r) : ∃ j, j = k ∧ f j = r := ⟨k, rfl, e⟩

section
variable {C : Ctx} {Q : AEx → St → Prop} {ks : List AItem} {σ : St}

def cutQ (C : Ctx) (Q : AEx → St → Prop) (ks : List AItem) (J : St → Prop) (e : AEx) (σ : St) : Prop := match e with
  | .normal => J σ
  | e => Run C Q ks e σ

def noOps : List AItem → Bool
  | [] => true
  | .ops _ _ :: _ => false
  | _ :: cs => noOps cs

theorem cut_mono {J : St → Prop} (hk : ∀ σ', J σ' → Run C Q ks .normal σ') : ∀ (cs : List AItem) (_ : noOps cs = true) (e : AEx) (σ : St), Run C (cutQ C Q ks J) cs e σ → Run C Q (cs ++ ks) e σ
  | [], _, .normal, σ, h => hk σ h
  | [], _, .exit _, _, h => h
  | [], _, .ret, _, h => h
  | [], _, .pan _, _, h => h
  | .ops all rest :: cs, hn, _, _, _ => by cases hn
  | .code c :: cs, hn, .normal, σ, h => fun a w S hat => Code.wp_mono (QC.mono (cut_mono hk cs hn)) (h a w S hat)
  | .code c :: cs, hn, .exit id, σ, h => cut_mono hk cs hn (.exit id) σ h
  | .code c :: cs, hn, .ret, σ, h => cut_mono hk cs hn .ret σ h
  | .code c :: cs, hn, .pan v, σ, h => cut_mono hk cs hn (.pan v) σ h
  | .blk id :: cs, hn, .normal, σ, h => cut_mono hk cs hn .normal σ h
  | .blk id :: cs, hn, .exit id', σ, h => by
    show (match Nat.beq id' id with | true => Run C Q (cs ++ ks) .normal σ | false => Run C Q (cs ++ ks) (.exit id') σ)
    have h : (match Nat.beq id' id with | true => Run C (cutQ C Q ks J) cs .normal σ | false => Run C (cutQ C Q ks J) cs (.exit id') σ) := h
    cases hb : Nat.beq id' id with
    | true => rw [hb] at h; exact cut_mono hk cs hn .normal σ h
    | false => rw [hb] at h; exact cut_mono hk cs hn (.exit id') σ h
  | .blk id :: cs, hn, .ret, σ, h => cut_mono hk cs hn .ret σ h
  | .blk id :: cs, hn, .pan v, σ, h => cut_mono hk cs hn (.pan v) σ h
  | .loop K :: cs, hn, .normal, σ, h => h
  | .loop K :: cs, hn, .exit id, σ, h => cut_mono hk cs hn (.exit id) σ h
  | .loop K :: cs, hn, .ret, σ, h => cut_mono hk cs hn .ret σ h
  | .loop K :: cs, hn, .pan v, σ, h => cut_mono hk cs hn (.pan v) σ h

theorem run_cutL (cs : List AItem) (J : St → Prop) (hn : noOps cs = true) (h : Run C (cutQ C Q ks J) cs .normal σ) (hk : ∀ σ', J σ' → Run C Q ks .normal σ') : Run C Q (cs ++ ks) .normal σ := cut_mono hk cs hn .normal σ h

theorem seq_mono {y z : Code} : ∀ (e : AEx) (σ : St), Run C Q (.code y :: .code z :: ks) e σ → Run C Q (.code (.seq y z) :: ks) e σ
  | .normal, _, h => run_seq h
  | .exit _, _, h => h
  | .ret, _, h => h
  | .pan _, _, h => h
theorem run_assoc {x y z : Code} (h : Run C Q (.code x :: .code y :: .code z :: ks) .normal σ) : Run C Q (.code x :: .code (.seq y z) :: ks) .normal σ :=
  fun a w S hat => Code.wp_mono (QC.mono seq_mono) (h a w S hat)

theorem cut_ret {J : St → Prop} (h : Q .ret σ) : cutQ C Q ks J .ret σ := run_ret_at h
theorem cut_pan {J : St → Prop} {v : AV} (h : Q (.pan v) σ) : cutQ C Q ks J (.pan v) σ := run_pan_at h
theorem cut_exit {J : St → Prop} {id : Nat} (h : Run C Q ks (.exit id) σ) : cutQ C Q ks J (.exit id) σ := h

/-- No block of that number is left among them. -/
def exitOut (id : Nat) : List AItem → Bool
  | [] => true
  | .blk j :: ks => match Nat.beq id j with
    | true => false
    | false => exitOut id ks
  | _ :: ks => exitOut id ks

theorem run_exit_out {id : Nat} : ∀ {ks : List AItem}, exitOut id ks = true → Q (.exit id) σ → Run C Q ks (.exit id) σ
  | [], _, h => h
  | .blk j :: ks, hx, h => by
    unfold exitOut at hx
    unfold Run
    cases hb : Nat.beq id j with
    | true => rw [hb] at hx; cases hx
    | false => rw [hb] at hx; exact run_exit_out hx h
  | .loop _ :: ks, hx, h => by show Run C Q ks (.exit id) σ; exact run_exit_out hx h
  | .code _ :: ks, hx, h => by show Run C Q ks (.exit id) σ; exact run_exit_out hx h
  | .ops _ _ :: ks, hx, h => by show Run C Q ks (.exit id) σ; exact run_exit_out hx h
end

/-! ### Slices -/

theorem lenImm_step {C : Ctx} {Γ : TTab} (hG : GOK C.P Γ) {σ : St} {o : Oper} {T : TypeId} {x : Operand} (ho : o.op = .call { callee := .builtin .len, args := #[x], argTypes := #[T] }) {tok sz : Nat} {full : Bool} {es : List (List AV)}
    (hx : oev σ.env x = some (.imm tok sz full es)) {i : TI} {e : TypeId} (hT : look T Γ = some i) (hd : i.desc = .slice e) {m : Nat} (hm : es.length = m) : Pu C o σ (.int .i64 m) := by
  subst hm
  exact len_step hG ho hx hT (by unfold alenD; rw [hd])

theorem lenOsl_step {C : Ctx} {Γ : TTab} (hG : GOK C.P Γ) {σ : St} {o : Oper} {T : TypeId} {x : Operand} (ho : o.op = .call { callee := .builtin .len, args := #[x], argTypes := #[T] }) {k : Nat} {ob : Obj}
    (hx : oev σ.env x = some (.osl (.loc k))) (hk : look k σ.l = some ob) {i : TI} {e : TypeId} (hT : look T Γ = some i) (hd : i.desc = .slice e) {m : Nat} (hm : ob.es.length = m) : Pu C o σ (.int .i64 m) := by
  subst hm
  refine len_step hG ho hx hT ?_
  unfold alenD
  rw [hd]
  show (match look k σ.l with | some o => some (AV.int .i64 o.es.length) | none => none) = _
  rw [hk]

theorem indexImm_step {C : Ctx} {Γ : TTab} (hG : GOK C.P Γ) {σ : St} {o : Oper} {T : TypeId} {x y : Operand} (ho : o.op = .indexAddr T x y) {tok sz : Nat} {full : Bool} {es : List (List AV)} {k : IntKind} {i : Int}
    (hx : oev σ.env x = some (.imm tok sz full es)) (hy : oev σ.env y = some (.int k i)) (hi : ((i.toNat : Nat) : Int) = i) {t j : TI} {e : TypeId} (hT : look T Γ = some t) (hd : t.desc = .slice e) (he : look e Γ = some j) (hsz : sz = j.size)
    {c : List AV} (hc : es[i.toNat]? = some c) : Pu C o σ (.cptr c) := by
  rw [← hi] at hy
  exact indexAddr_step hG ho hx hy hT hd he hsz (aindex_imm hc)

/-! ### What a call leaves -/

/-- A call that gives back one value, leaves all else, and takes names of memory. -/
def RetX (O : Heap) (tk : Nat) (P : AV → Nat → Prop) (out : Out) (O' : Heap) (tk' : Nat) : Prop := O' = O ∧ tk ≤ tk' ∧ ∃ v, out = .ret v ∧ P v tk'

theorem callK_retX {C : Ctx} {σ : St} {K KP : St → AV → Prop} {P : AV → Nat → Prop} (h : ∀ v tk', σ.tk ≤ tk' → P v tk' → K ⟨σ.env, σ.l, σ.b, σ.O, tk'⟩ v) : CallK C σ K KP (RetX (C.heap σ) σ.tk P) :=
  ⟨fun v' O' tk' ⟨h1, h2, v, h3, h4⟩ => by cases h3; exact ⟨⟨σ.env, σ.l, σ.b, σ.O, tk'⟩, rfl, h1.symm, rfl, rfl, h _ _ h2 h4⟩, fun v O' tk' ⟨_, _, _, h2, _⟩ => (by cases h2), fun ob O' tk' ⟨_, _, _, h2, _⟩ => (by cases h2)⟩

/-- A call that may also end in a panic. -/
def RetP (O : Heap) (tk : Nat) (P : AV → Nat → Prop) (PP : AV → Prop) (out : Out) (O' : Heap) (tk' : Nat) : Prop := O' = O ∧ tk ≤ tk' ∧ ((∃ v, out = .ret v ∧ P v tk') ∨ ∃ v, out = .pan v ∧ PP v)

theorem callK_retP {C : Ctx} {σ : St} {K KP : St → AV → Prop} {P : AV → Nat → Prop} {PP : AV → Prop} (h : ∀ v tk', σ.tk ≤ tk' → P v tk' → K ⟨σ.env, σ.l, σ.b, σ.O, tk'⟩ v) (hp : ∀ v tk', σ.tk ≤ tk' → PP v → KP ⟨σ.env, σ.l, σ.b, σ.O, tk'⟩ v) :
    CallK C σ K KP (RetP (C.heap σ) σ.tk P PP) :=
  ⟨fun v' O' tk' ⟨h1, h2, h3⟩ => by
    rcases h3 with ⟨v, e, h4⟩ | ⟨v, e, _⟩
    · cases e; exact ⟨⟨σ.env, σ.l, σ.b, σ.O, tk'⟩, rfl, h1.symm, rfl, rfl, h _ _ h2 h4⟩
    · exact (by cases e),
   fun v' O' tk' ⟨h1, h2, h3⟩ => by
    rcases h3 with ⟨v, e, _⟩ | ⟨v, e, h4⟩
    · cases e
    · cases e; exact ⟨⟨σ.env, σ.l, σ.b, σ.O, tk'⟩, rfl, h1.symm, rfl, rfl, hp _ _ h2 h4⟩,
   fun ob O' tk' ⟨_, _, h3⟩ => by
    rcases h3 with ⟨v, e, _⟩ | ⟨v, e, _⟩ <;> cases e⟩

/-- A call that writes into one object. -/
def RetV (O : Heap) (x : ID) (tk : Nat) (P : AV → Obj → Nat → Prop) (out : Out) (O' : Heap) (tk' : Nat) : Prop := ∃ v o', out = .ret v ∧ O' = upd O x o' ∧ tk ≤ tk' ∧ P v o' tk'

theorem upd_loc {C : Ctx} {σ : St} {k : Nat} {o o' : Obj} (hk : look k σ.l = some o) {tk' : Nat} : C.heap ⟨σ.env, setl k o' σ.l, σ.b, σ.O, tk'⟩ = upd (C.heap σ) (.loc k) o' := by
  funext z
  cases z with
  | loc i =>
    show look i (setl k o' σ.l) = upd (C.heap σ) (.loc k) o' (.loc i)
    rw [look_setl (by rw [hk]; rfl) i]
    unfold upd
    by_cases hi : i = k
    · subst hi; simp
    · rw [if_neg hi, if_neg (fun e => hi (by cases e; rfl))]; rfl
  | bor i => unfold upd; rw [if_neg (fun e => by cases e)]; rfl
  | up z => unfold upd; rw [if_neg (fun e => by cases e)]; rfl

theorem upd_bor {C : Ctx} {σ : St} {k : Nat} {o o' : Obj} (hk : σ.b[k]? = some o) (hup : o'.up = o') {tk' : Nat} : C.heap ⟨σ.env, σ.l, σ.b.set k o', σ.O, tk'⟩ = upd (C.heap σ) (.bor k) o' := by
  have hlt : k < σ.b.length := (List.getElem?_eq_some_iff.1 hk).1
  funext z
  cases z with
  | loc i => unfold upd; rw [if_neg (fun e => by cases e)]; rfl
  | bor i =>
    show ((σ.b.set k o')[i]?).map Obj.up = upd (C.heap σ) (.bor k) o' (.bor i)
    unfold upd
    by_cases hi : i = k
    · subst hi; simp [hlt, hup]
    · rw [if_neg (fun e => hi (by cases e; rfl)), List.getElem?_set_ne (Ne.symm hi)]; rfl
  | up z => unfold upd; rw [if_neg (fun e => by cases e)]; rfl

theorem callK_retV_loc {C : Ctx} {σ : St} {K KP : St → AV → Prop} {k : Nat} {o : Obj} (hk : look k σ.l = some o) {P : AV → Obj → Nat → Prop} (h : ∀ v o' tk', σ.tk ≤ tk' → P v o' tk' → K ⟨σ.env, setl k o' σ.l, σ.b, σ.O, tk'⟩ v) : CallK C σ K KP (RetV (C.heap σ) (.loc k) σ.tk P) :=
  ⟨fun v' O' tk' ⟨v, o', h1, h2, h3, h4⟩ => by
    cases h1
    exact ⟨⟨σ.env, setl k o' σ.l, σ.b, σ.O, tk'⟩, rfl, by rw [h2]; exact upd_loc hk, rfl, rfl, h _ _ _ h3 h4⟩, fun v O' tk' ⟨_, _, h2, _⟩ => (by cases h2), fun ob O' tk' ⟨_, _, h2, _⟩ => (by cases h2)⟩

theorem callK_retV_bor {C : Ctx} {σ : St} {K KP : St → AV → Prop} {k : Nat} {o : Obj} (hk : σ.b[k]? = some o) {P : AV → Obj → Nat → Prop} (hup : ∀ v o' tk', P v o' tk' → o'.up = o') (h : ∀ v o' tk', σ.tk ≤ tk' → P v o' tk' → K ⟨σ.env, σ.l, σ.b.set k o', σ.O, tk'⟩ v) : CallK C σ K KP (RetV (C.heap σ) (.bor k) σ.tk P) :=
  ⟨fun v' O' tk' ⟨v, o', h1, h2, h3, h4⟩ => by
    cases h1
    exact ⟨⟨σ.env, σ.l, σ.b.set k o', σ.O, tk'⟩, rfl, by rw [h2]; exact upd_bor hk (hup _ _ _ h4), rfl, by simp, h _ _ _ h3 h4⟩, fun v O' tk' ⟨_, _, h2, _⟩ => (by cases h2), fun ob O' tk' ⟨_, _, h2, _⟩ => (by cases h2)⟩

/-- A call that writes into one object and may end in a panic. -/
def RetVP (O : Heap) (x : ID) (tk : Nat) (P : AV → Obj → Nat → Prop) (PP : AV → Obj → Prop) (out : Out) (O' : Heap) (tk' : Nat) : Prop := ∃ v o', O' = upd O x o' ∧ tk ≤ tk' ∧ (out = .ret v ∧ P v o' tk' ∨ out = .pan v ∧ PP v o')

theorem callK_retVP_loc {C : Ctx} {σ : St} {K KP : St → AV → Prop} {k : Nat} {o : Obj} (hk : look k σ.l = some o) {P : AV → Obj → Nat → Prop} {PP : AV → Obj → Prop} (h : ∀ v o' tk', σ.tk ≤ tk' → P v o' tk' → K ⟨σ.env, setl k o' σ.l, σ.b, σ.O, tk'⟩ v)
    (hp : ∀ v o' tk', σ.tk ≤ tk' → PP v o' → KP ⟨σ.env, setl k o' σ.l, σ.b, σ.O, tk'⟩ v) : CallK C σ K KP (RetVP (C.heap σ) (.loc k) σ.tk P PP) :=
  ⟨fun v' O' tk' ⟨v, o', h2, h3, h4⟩ => by
    rcases h4 with ⟨e, h4⟩ | ⟨e, _⟩
    · cases e
      exact ⟨⟨σ.env, setl k o' σ.l, σ.b, σ.O, tk'⟩, rfl, by rw [h2]; exact upd_loc hk, rfl, rfl, h _ _ _ h3 h4⟩
    · exact (by cases e),
   fun v' O' tk' ⟨v, o', h2, h3, h4⟩ => by
    rcases h4 with ⟨e, _⟩ | ⟨e, h4⟩
    · cases e
    · cases e
      exact ⟨⟨σ.env, setl k o' σ.l, σ.b, σ.O, tk'⟩, rfl, by rw [h2]; exact upd_loc hk, rfl, rfl, hp _ _ _ h3 h4⟩,
   fun ob O' tk' ⟨_, _, _, _, h4⟩ => by rcases h4 with ⟨e, _⟩ | ⟨e, _⟩ <;> cases e⟩

theorem callK_retVP_bor {C : Ctx} {σ : St} {K KP : St → AV → Prop} {k : Nat} {o : Obj} (hk : σ.b[k]? = some o) {P : AV → Obj → Nat → Prop} {PP : AV → Obj → Prop} (hup : ∀ v o' tk', P v o' tk' → o'.up = o') (hup' : ∀ v o', PP v o' → o'.up = o')
    (h : ∀ v o' tk', σ.tk ≤ tk' → P v o' tk' → K ⟨σ.env, σ.l, σ.b.set k o', σ.O, tk'⟩ v)
    (hp : ∀ v o' tk', σ.tk ≤ tk' → PP v o' → KP ⟨σ.env, σ.l, σ.b.set k o', σ.O, tk'⟩ v) : CallK C σ K KP (RetVP (C.heap σ) (.bor k) σ.tk P PP) :=
  ⟨fun v' O' tk' ⟨v, o', h2, h3, h4⟩ => by
    rcases h4 with ⟨e, h4⟩ | ⟨e, _⟩
    · cases e
      exact ⟨⟨σ.env, σ.l, σ.b.set k o', σ.O, tk'⟩, rfl, by rw [h2]; exact upd_bor hk (hup _ _ _ h4), rfl, by simp, h _ _ _ h3 h4⟩
    · exact (by cases e),
   fun v' O' tk' ⟨v, o', h2, h3, h4⟩ => by
    rcases h4 with ⟨e, _⟩ | ⟨e, h4⟩
    · cases e
    · cases e
      exact ⟨⟨σ.env, σ.l, σ.b.set k o', σ.O, tk'⟩, rfl, by rw [h2]; exact upd_bor hk (hup' _ _ h4), rfl, by simp, hp _ _ _ h3 h4⟩,
   fun ob O' tk' ⟨_, _, _, _, h4⟩ => by rcases h4 with ⟨e, _⟩ | ⟨e, _⟩ <;> cases e⟩

/-- What is borrowed, as it was. -/
theorem out_same {bor : List ID} {b : List Obj} {O : Heap} (h : Bor O bor b) : OB bor b O = O := by
  funext x
  by_cases hx : x ∈ bor
  · obtain ⟨k, hk⟩ := List.mem_iff_getElem?.1 hx
    obtain ⟨o, h1, h2, _⟩ := h.at_ k x hk
    rw [OB_get h.nd h.len hk h1, h2]
  · exact OB_not hx

theorem out_one {x : ID} {o : Obj} {O : Heap} : OB [x] [o] O = upd O x o := rfl

/-! ### Slices without elements have no width -/

def nrm0 : AV → AV
  | .imm _ _ f [] => .imm 0 0 f []
  | v => v
def nrm1 : AV → AV
  | .agg cs => .agg (cs.map nrm0)
  | v => nrm0 v
def nrm2 : AV → AV
  | .tup vs => .tup (vs.map nrm1)
  | v => nrm1 v

theorem nrm0_ne {v : AV} (h : ∀ a b f, v ≠ .imm a b f []) : nrm0 v = v := by
  unfold nrm0
  split
  · exact absurd rfl (h _ _ _)
  · rfl

theorem nrm0_rep {S : Sit} {v v' : AV} {u : Value} (h : RepC S v u) (e : nrm0 v' = nrm0 v) : RepC S v' u := by
  by_cases hv : ∃ a b f, v = .imm a b f []
  · obtain ⟨a, b, f, rfl⟩ := hv
    by_cases hv' : ∃ a b f, v' = .imm a b f []
    · obtain ⟨a', b', f', rfl⟩ := hv'
      simp only [nrm0, AV.imm.injEq, true_and] at e
      obtain ⟨rfl, _⟩ := e
      cases h with
      | imm0 _ _ _ ad c hf hm => exact .imm0 _ _ _ ad c hf hm
      | imm _ _ _ _ _ _ _ _ hne => exact absurd rfl hne
    · rw [nrm0_ne (fun a b f q => hv' ⟨a, b, f, q⟩)] at e
      exact absurd ⟨_, _, _, e⟩ hv'
  · rw [nrm0_ne (fun a b f q => hv ⟨a, b, f, q⟩)] at e
    by_cases hv' : ∃ a b f, v' = .imm a b f []
    · obtain ⟨a', b', f', rfl⟩ := hv'
      exact absurd ⟨_, _, _, e.symm⟩ hv
    · rw [nrm0_ne (fun a b f q => hv' ⟨a, b, f, q⟩)] at e
      rw [e]; exact h

theorem nrm0_d1 {v v' : AV} (e : nrm0 v' = nrm0 v) (h : v.d1 = true) : v'.d1 = true := by
  by_cases hv : ∃ a b f, v = .imm a b f []
  · obtain ⟨a, b, f, rfl⟩ := hv
    by_cases hv' : ∃ a b f, v' = .imm a b f []
    · obtain ⟨a', b', f', rfl⟩ := hv'; rfl
    · rw [nrm0_ne (fun a b f q => hv' ⟨a, b, f, q⟩)] at e
      rw [e]; rfl
  · rw [nrm0_ne (fun a b f q => hv ⟨a, b, f, q⟩)] at e
    by_cases hv' : ∃ a b f, v' = .imm a b f []
    · obtain ⟨a', b', f', rfl⟩ := hv'; rfl
    · rw [nrm0_ne (fun a b f q => hv' ⟨a, b, f, q⟩)] at e
      rw [e]; exact h

theorem map_same {f g : AV → AV} {l l' : List AV} (e : l'.map f = l.map g) {j : Nat} {x' : AV} (h : l'[j]? = some x') : ∃ x, l[j]? = some x ∧ f x' = g x := by
  have h1 : (l'.map f)[j]? = some (f x') := by rw [List.getElem?_map, h]; rfl
  rw [e, List.getElem?_map] at h1
  obtain ⟨x, q1, q2⟩ := Option.map_eq_some_iff.1 h1
  exact ⟨x, q1, q2.symm⟩
theorem map_len {f g : AV → AV} {l l' : List AV} (e : l'.map f = l.map g) : l'.length = l.length := by
  have := congrArg List.length e; simpa using this

def isAggV : AV → Bool
  | .agg _ => true
  | _ => false

theorem nrm0_agg {v : AV} {cs : List AV} (h : nrm0 v = .agg cs) : v = .agg cs := by
  unfold nrm0 at h
  split at h
  · cases h
  · exact h
theorem nrm0_tup {v : AV} {cs : List AV} (h : nrm0 v = .tup cs) : v = .tup cs := by
  unfold nrm0 at h
  split at h
  · cases h
  · exact h

theorem nrm1_na {v : AV} (h : ∀ cs, v ≠ .agg cs) : nrm1 v = nrm0 v := by
  unfold nrm1
  split
  · exact absurd rfl (h _)
  · rfl
theorem nrm2_nt {v : AV} (h : ∀ cs, v ≠ .tup cs) : nrm2 v = nrm1 v := by
  unfold nrm2
  split
  · exact absurd rfl (h _)
  · rfl
theorem nrm1_agg {v : AV} {cs : List AV} (h : nrm1 v = .agg cs) : ∃ cs', v = .agg cs' := by
  cases v with
  | agg cs' => exact ⟨cs', rfl⟩
  | _ => exact absurd (nrm0_agg ((nrm1_na (fun _ h => by cases h)).symm.trans h)) (fun h => by cases h)
theorem nrm2_tup {v : AV} {cs : List AV} (h : nrm2 v = .tup cs) : ∃ cs', v = .tup cs' := by
  by_cases hv : ∃ cs', v = .tup cs'
  · exact hv
  · rw [nrm2_nt (fun cs q => hv ⟨cs, q⟩)] at h
    by_cases hv2 : ∃ cs', v = .agg cs'
    · obtain ⟨cs', rfl⟩ := hv2; cases h
    · rw [nrm1_na (fun cs q => hv2 ⟨cs, q⟩)] at h
      exact absurd ⟨_, nrm0_tup h⟩ hv

theorem nrm1_rep {S : Sit} {v v' : AV} {u : Value} (h : RepC S v u) (e : nrm1 v' = nrm1 v) : RepC S v' u := by
  by_cases hv : ∃ cs, v = .agg cs
  · obtain ⟨cs, rfl⟩ := hv
    have e : nrm1 v' = .agg (cs.map nrm0) := e
    obtain ⟨cs', rfl⟩ := nrm1_agg e
    have e : AV.agg (cs'.map nrm0) = .agg (cs.map nrm0) := e
    injection e with e
    cases h with
    | agg _ us hl hs h =>
      exact .agg _ us (hl.trans (map_len e).symm) (fun j x hj => let ⟨y, q1, q2⟩ := map_same e hj; nrm0_d1 q2 (hs j y q1)) (fun j x hj => let ⟨y, q1, q2⟩ := map_same e hj; nrm0_rep (h j y q1) q2)
  · have q := nrm1_na (v := v) fun cs q => hv ⟨cs, q⟩
    by_cases hv' : ∃ cs, v' = .agg cs
    · obtain ⟨cs', rfl⟩ := hv'
      rw [q] at e
      have e : AV.agg (cs'.map nrm0) = nrm0 v := e
      exact absurd ⟨_, nrm0_agg e.symm⟩ hv
    · rw [q, nrm1_na (v := v') fun cs q => hv' ⟨cs, q⟩] at e
      exact nrm0_rep h e

theorem nrm2_rep {S : Sit} {v v' : AV} {u : Value} (h : RepC S v u) (e : nrm2 v' = nrm2 v) : RepC S v' u := by
  by_cases hv : ∃ cs, v = .tup cs
  · obtain ⟨cs, rfl⟩ := hv
    have e : nrm2 v' = .tup (cs.map nrm1) := e
    obtain ⟨cs', rfl⟩ := nrm2_tup e
    have e : AV.tup (cs'.map nrm1) = .tup (cs.map nrm1) := e
    injection e with e
    cases h with
    | tup _ us hl h =>
      exact .tup _ us (hl.trans (map_len e).symm) (fun j x hj => let ⟨y, q1, q2⟩ := map_same e hj; nrm1_rep (h j y q1) q2)
  · have q := nrm2_nt (v := v) fun cs q => hv ⟨cs, q⟩
    by_cases hv' : ∃ cs, v' = .tup cs
    · obtain ⟨cs', rfl⟩ := hv'
      have e : AV.tup (cs'.map nrm1) = nrm2 v := e
      exact absurd (nrm2_tup e.symm) hv
    · rw [q, nrm2_nt (v := v') fun cs q => hv' ⟨cs, q⟩] at e
      exact nrm1_rep h e

/-! ### Results, said otherwise -/
theorem fin_x {C : Ctx} {Γ : TTab} (hG : GOK C.P Γ) {σ : St} {fn : Func} {rs : List ResultVar} (hrs : fn.results = rs.toArray) {vs : List AV} (hv : ares Γ (C.heap σ) σ.env rs = some vs) (hc : vs.all outc = true) {v' : AV} (he : nrm2 v' = nrm2 (outOf vs))
    {R : Out → Heap → Nat → Prop} (h : R (.ret v') (C.out σ) σ.tk) : Results C fn R σ := by
  intro a w S hat
  obtain ⟨u, w', S', σ', out, h1, h2, h3, h4, h5⟩ := fin_ret hG hrs hv hc (R := fun out O tk => out = .ret (outOf vs) ∧ O = C.out σ ∧ tk = σ.tk) ⟨rfl, rfl, rfl⟩ a w S hat
  obtain ⟨rfl, e2, e3⟩ := h5
  obtain ⟨u', q1, q2⟩ := h4
  exact ⟨u, w', S', σ', .ret v', h1, h2, h3, ⟨u', q1, nrm2_rep q2 he⟩, by rw [e2, e3]; exact h⟩

theorem fin_sub {C : Ctx} {σ σ' : St} {fn : Func} {R : Out → Heap → Nat → Prop} (hs : Sub C σ σ') (h : Results C fn R σ') : Results C fn R σ := fun a w S hat => by
  obtain ⟨S', h1, _⟩ := hs a w S hat
  exact h a w S' h1

/-! ### Arguments, said otherwise -/
theorem nrm1_cases {v v' : AV} (e : nrm1 v' = nrm1 v) : v' = v ∨ (∃ a b f, v = .imm a b f []) ∧ (∃ a b f, v' = .imm a b f []) ∨ (∃ cs, v = .agg cs) ∧ (∃ cs, v' = .agg cs) := by
  by_cases hv : ∃ cs, v = .agg cs
  · obtain ⟨cs, rfl⟩ := hv
    have e : nrm1 v' = .agg (cs.map nrm0) := e
    exact .inr (.inr ⟨⟨_, rfl⟩, nrm1_agg e⟩)
  · have q := nrm1_na (v := v) fun cs q => hv ⟨cs, q⟩
    by_cases hv' : ∃ cs, v' = .agg cs
    · obtain ⟨cs', rfl⟩ := hv'
      rw [q] at e
      have e : AV.agg (cs'.map nrm0) = nrm0 v := e
      exact absurd ⟨_, nrm0_agg e.symm⟩ hv
    · rw [q, nrm1_na (v := v') fun cs q => hv' ⟨cs, q⟩] at e
      by_cases h1 : ∃ a b f, v = .imm a b f []
      · by_cases h2 : ∃ a b f, v' = .imm a b f []
        · exact .inr (.inl ⟨h1, h2⟩)
        · rw [nrm0_ne (fun a b f q => h2 ⟨a, b, f, q⟩)] at e
          obtain ⟨a, b, f, rfl⟩ := h1
          exact absurd ⟨_, _, _, e⟩ h2
      · rw [nrm0_ne (v := v) (fun a b f q => h1 ⟨a, b, f, q⟩)] at e
        by_cases h2 : ∃ a b f, v' = .imm a b f []
        · obtain ⟨a, b, f, rfl⟩ := h2
          exact absurd ⟨_, _, _, e.symm⟩ h1
        · rw [nrm0_ne (fun a b f q => h2 ⟨a, b, f, q⟩)] at e
          exact .inl e

theorem arg_same {S : Sit} {v v' : AV} {u : Value} (h : Arg S v u) (e : nrm1 v' = nrm1 v) : Arg S v' u := by
  rcases nrm1_cases e with rfl | ⟨⟨a, b, f, rfl⟩, a', b', f', rfl⟩ | ⟨⟨cs, rfl⟩, cs', rfl⟩
  · exact h
  · exact nrm1_rep (v := .imm a b f []) h e
  · exact nrm1_rep (v := .agg cs) h e

theorem tch_same : ∀ {l l' : List AV}, l'.map nrm1 = l.map nrm1 → tch l' = tch l
  | [], [], _ => rfl
  | [], _ :: _, h => by cases h
  | _ :: _, [], h => by cases h
  | v :: l, v' :: l', h => by
    simp only [List.map_cons, List.cons.injEq] at h
    have ih := tch_same h.2
    rcases nrm1_cases h.1 with rfl | ⟨⟨a, b, f, rfl⟩, a', b', f', rfl⟩ | ⟨⟨cs, rfl⟩, cs', rfl⟩
    · unfold tch
      split <;> simp [ih]
    · exact ih
    · exact ih

theorem ACalls.args {P : Program} {f : FuncId} {args' args : List AV} {O : Heap} {tk : Nat} {R : Out → Heap → Nat → Prop} (e : args'.map nrm1 = args.map nrm1) (h : ACalls P f args' O tk R) : ACalls P f args O tk R :=
  ⟨h.1, fun S us h1 h2 h3 h4 h5 h6 => h.2 S us h1 h2 h3 (by rw [tch_same e]; exact h4) (by rw [h5, map_len e]) fun j v' hj => let ⟨v, q1, q2⟩ := map_same e hj; arg_same (h6 j v q1) q2⟩

end Go.Am
