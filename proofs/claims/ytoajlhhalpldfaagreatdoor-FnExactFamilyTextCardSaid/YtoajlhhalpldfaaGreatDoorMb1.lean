/- Guarded operations in a region that draws its order. -/
import Derived.Test.YtoajlhhalpldfaaGreatDoorMi3
namespace Go.Am
open Go
section
variable {C : Ctx} {all : Array Oper} {Q : AEx → St → Prop} {W : List ID} {fuel : Nat} {listed : Array Bool} {σ : St} {ks : List AItem}

theorem AAny.takeG {i : Nat} {oi : Oper} {v : AV} {d : Nat} (hi : all[i]? = some oi) (hs : Region.noSelect all = true) (hf : Region.free .any all listed i = true) (hr : (Region.ready .any all listed).contains i = true)
  (hg : OnG all σ oi true) (hd : oi.dst = some d) (hn : d < C.nt) (hy : Rd C W oi σ v) (h : AAny C all Q W fuel (listed.setIfInBounds i true) (σ.put d v)) : AAny C all Q W (fuel + 1) listed σ := by
 intro a w S hat hW
 obtain ⟨u, h1, h2⟩ := hy a w S hat hW
 have hwS := hat.w
 subst hwS
 refine wpAnyH_take hi hs hf hr (fun c a' w' hq => ?_) (.inl ⟨wanted_on hat hg, fun w' hw' => h1 w' hw'⟩) (Held.refl S W) ?_
 ·obtain ⟨S1, σ1, v1, u1, e1, q1, q2, q3, q4⟩ := hq
  refine ⟨S1, σ1, v1, u1, e1, ⟨q1.w, q1.O, q1.tk, q1.sim, fun j x hj => by rw [e1] at hj; simp [look] at hj, by have := q1.nt; rw [hd] at this; simpa [Act.put] using this, by have := q1.defers; rw [hd] at this; exact this, q1.ext, q1.new, q1.bl, q1.nd, q1.bb, q1.h0, q1.hl, q1.hu, q1.hv, q1.hf, q1.inv⟩, q2, q3, q4⟩
 rw [hd]
 exact h _ _ S (hat.put hn h2) hW
theorem AAny.off {i : Nat} {oi : Oper} {d : Nat} (hi : all[i]? = some oi) (hs : Region.noSelect all = true) (hf : Region.free .any all listed i = true) (hr : (Region.ready .any all listed).contains i = true)
  (hg : OnG all σ oi false) (hd : oi.dst = some d) (hn : d < C.nt) (h : AAny C all Q W fuel (listed.setIfInBounds i true) (σ.put d (.tup []))) : AAny C all Q W (fuel + 1) listed σ := by
 intro a w S hat hW
 have hwS := hat.w
 subst hwS
 refine wpAnyH_take hi hs hf hr (fun c a' w' hq => ?_) (.inr ⟨wanted_on hat hg, rfl⟩) (Held.refl S W) ?_
 ·obtain ⟨S1, σ1, v1, u1, e1, q1, q2, q3, q4⟩ := hq
  refine ⟨S1, σ1, v1, u1, e1, ⟨q1.w, q1.O, q1.tk, q1.sim, fun j x hj => by rw [e1] at hj; simp [look] at hj, by have := q1.nt; rw [hd] at this; simpa [Act.put] using this, by have := q1.defers; rw [hd] at this; exact this, q1.ext, q1.new, q1.bl, q1.nd, q1.bb, q1.h0, q1.hl, q1.hu, q1.hv, q1.hf, q1.inv⟩, q2, q3, q4⟩
 rw [hd]
 exact h _ _ S (hat.put hn rep_undef) hW
theorem AAny.split {i : Nat} {b : Bool} (hv : look i σ.env = some (.bool b)) (hl : ∀ x ∈ W, (C.heap σ x).isSome = true) (ht : b = true → AAny C all Q W fuel listed (σ.put i (.bool true))) (hf : b = false → AAny C all Q W fuel listed (σ.put i (.bool false))) : AAny C all Q W fuel listed σ := by
 have key : ∀ v, look i σ.env = some v → Sub C σ (σ.put i v) := fun v hv a w S hat => ⟨S, by
  have := hat.weaken ((i, v) :: σ.env) (fun j x hj => by
   simp only [look] at hj
   split at hj
   ·rename_i hb; cases hj; rw [Nat.eq_of_beq_eq_true hb]; exact .inl hv
   exact .inl hj)
  exact this, rfl, rfl⟩
 cases b with
 | true => exact AAny.sub (key _ hv) hl (ht rfl)
 | false => exact AAny.sub (key _ hv) hl (hf rfl)
theorem AAny.splitd {i : Nat} {p : Prop} [Decidable p] (hv : look i σ.env = some (.bool (decide p))) (hl : ∀ x ∈ W, (C.heap σ x).isSome = true) (ht : p → AAny C all Q W fuel listed (σ.put i (.bool true))) (hf : ¬ p → AAny C all Q W fuel listed (σ.put i (.bool false))) : AAny C all Q W fuel listed σ :=
 AAny.split hv hl (fun h => ht (of_decide_eq_true h)) (fun h => hf (of_decide_eq_false h))
end
end Go.Am
