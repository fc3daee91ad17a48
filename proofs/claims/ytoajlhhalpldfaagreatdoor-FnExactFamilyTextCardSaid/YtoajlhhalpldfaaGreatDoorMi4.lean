/- Marks of proofs and expressions: two lists. -/
import Derived.Test.YtoajlhhalpldfaaGreatDoorMi3
namespace Go.Am
open Go

def QMarked (tk p : Nat) (e : Bool) (fs : List LF) (q : Nat) (f : Bool) (ks : List LP) (k : Int) (out : Out) (S' : Sit) : Prop :=
 out = .ret (.int .i64 (lpmarks ks (lfmarks fs k).2).2) ∧ tk ≤ S'.tk ∧ (∃ u, RepC S' (.imm p 3 e (fcellss (lfmarks fs k).1)) u) ∧ ∃ u, RepC S' (.imm q 4 f (pcellss (lpmarks ks (lfmarks fs k).2).1)) u

def Pf.marks (x : Pf) (k : Int) : (List F × List Pf) × Int := (((fmarks x.forms k).1, (pmarks x.kids (fmarks x.forms k).2).1), (pmarks x.kids (fmarks x.forms k).2).2)

def QMk (tk p : Nat) (e : Bool) (fs : List LF) (q : Nat) (f : Bool) (ks : List LP) (r : (List F × List Pf) × Int) (out : Out) (S' : Sit) : Prop :=
 ∃ fs' ks' k', r = ((fers fs', pers ks'), k') ∧ out = .ret (.int .i64 k') ∧ tk ≤ S'.tk ∧ fstoks p fs' = fstoks p fs ∧ fs'.length = fs.length ∧ pstoks q ks' = pstoks q ks ∧ ks'.length = ks.length ∧
  (∃ u, RepC S' (.imm p 3 e (fcellss fs')) u) ∧ ∃ u, RepC S' (.imm q 4 f (pcellss ks')) u

theorem QMarked.mk {tk p : Nat} {e : Bool} {fs : List LF} {q : Nat} {f : Bool} {ks : List LP} {k0 n0 k : Int} {r : (List F × List Pf) × Int} (hr : some (Pf.marks (Pf.mk k0 n0 (fers fs) (pers ks)) k) = some r) {out : Out} {S' : Sit} (h : QMarked tk p e fs q f ks k out S') : QMk tk p e fs q f ks r out S' := by
 obtain ⟨h1, h2, h3, h4⟩ := h
 obtain rfl := some_t hr
 refine ⟨_, _, _, ?_, h1, h2, lfmarks_stoks .., lfmarks_len .., lpmarks_stoks .., lpmarks_len .., h3, h4⟩
 unfold Pf.marks
 simp only [Pf.forms, Pf.kids]
 rw [(lfmarks_er fs k).1, (lfmarks_er fs k).2, (lpmarks_er ks _).1, (lpmarks_er ks _).2]

def GQ (p : Nat) (e : Bool) (fs fs' : List LF) (q : Nat) (f : Bool) (ks ks' : List LP) (v v' : AV) : Prop := GF p e fs fs' v v' ∨ GP q f ks ks' v v'
theorem GQ.turned {p : Nat} {e : Bool} {fs fs' : List LF} {q : Nat} {f : Bool} {ks ks' : List LP} {S' : Sit} (h2 : ∀ x ∈ fstoks p fs ++ pstoks q ks, 2 ≤ x) (hs : fstoks p fs' = fstoks p fs) (hl : fs'.length = fs.length) (hs2 : pstoks q ks' = pstoks q ks) (hl2 : ks'.length = ks.length)
  (hu : ∃ u, RepC S' (.imm p 3 e (fcellss fs')) u) (hu2 : ∃ u, RepC S' (.imm q 4 f (pcellss ks')) u) : ∀ v v', GQ p e fs fs' q f ks ks' v v' → Turned S' v v' := by
 rintro v v' (h | h)
 ·exact GF.turned (fun x hx => h2 x (List.mem_append.2 (.inl hx))) hs hl hu v v' h
 exact GP.turned (fun x hx => h2 x (List.mem_append.2 (.inr hx))) hs2 hl2 hu2 v v' h
end Go.Am
