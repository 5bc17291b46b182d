import Derived.OrdersIn
import Derived.Test.YtajkoeodabmgeaaZ5
namespace Go.Proofs.Ytajkoeodabmgeaa
open Go.RowKit

/-- Operations that yield a value or die: they enter nothing, defer nothing, turn nothing that is looked at here. -/
def plainOp : Op → Bool
  | .move _ | .assign _ | .pick .. | .build .. | .load .. | .indexAddr .. | .index .. | .binOp .. | .unOp .. | .fieldAddr .. | .field .. | .extract .. | .convert .. | .slice .. => true
  | .call c => (match c.callee with | .builtin .len => true | _ => false)
  | _ => false

def ValueOrHalt (r : Result Next) : Prop := match r with
  | .ok (.value _) _ => True
  | .ok _ _ => False
  | .halt _ _ => True

theorem valueOrHalt_bind {α : Type} {P : Program} {w : World} (s : Sem α) (f : α → Value) : ValueOrHalt ((do pure (.value (f (← s))) : Sem Next).run P w) := by
  rw [Sem.run_bind]
  cases s.run P w <;> simp [Result.andThen, ValueOrHalt, Sem.run_pure]

theorem plain_value {P : Program} {o : Oper} (h : plainOp o.op = true) (ρ : Operand → Value) (w : World) : ValueOrHalt ((execOp ρ o).run P w) := by
  unfold execOp
  cases ho : o.op <;> rw [ho] at h <;> simp only [plainOp, Bool.false_eq_true] at h <;> first | exact valueOrHalt_bind _ id | exact trivial | exact valueOrHalt_bind _ _ | skip
  rename_i c
  dsimp only
  unfold resolve
  cases hc : c.callee with
  | builtin b =>
    rw [hc] at h
    cases b <;> first | (exact absurd h (by decide)) | skip
    simp only [Sem.run_bind, Sem.run_pure, Result.andThen_ok]
    exact valueOrHalt_bind _ id
  | invoke r n => rw [hc] at h; cases h
  | value f => rw [hc] at h; cases h
theorem plain_about {P : Program} {o : Oper} (h : plainOp o.op = true) (ρ : Operand → Value) (w : World) : o.about P w ρ = none := by
  unfold Oper.about
  cases ho : o.op <;> rw [ho] at h <;> simp only [plainOp] at h <;> first | rfl | skip
  rename_i c
  dsimp only
  unfold resolve
  cases hc : c.callee with
  | builtin b =>
    rw [hc] at h
    cases b <;> first | (exact absurd h (by decide)) | skip
    rfl
  | invoke r n => rw [hc] at h; cases h
  | value f => rw [hc] at h; cases h
theorem plain_not_defer {o : Oper} (h : plainOp o.op = true) : ∀ c, o.op ≠ .defer c := fun c e => by rw [e] at h; cases h
theorem plain_not_select {o : Oper} (h : plainOp o.op = true) : ∀ cs b, o.op ≠ .select cs b := fun c b e => by rw [e] at h; cases h

section
variable {F : Fence} {n : Nat} {P : Program} {ops : Array Oper} {Q : Exit → Act → World → Prop} {md : Region.Mode} {S : World → Prop}

def plainOps (ops : Array Oper) : Bool := ops.all fun o => plainOp o.op
theorem plain_at (h : plainOps ops = true) {i : Nat} {o : Oper} (hi : ops[i]? = some o) : plainOp o.op = true := by
  obtain ⟨hl, rfl⟩ := Array.getElem?_eq_some_iff.1 hi
  exact (Array.all_eq_true.1 h) i hl

/-- Whatever order is picked from here on, in a round of a range over a function too; S behind each operation. -/
def wpAnyR (F : Fence) (n : Nat) (P : Program) (md : Region.Mode) (ops : Array Oper) (Q : Exit → Act → World → Prop) (S : World → Prop) : Nat → Array Bool → Act → World → Prop
  | 0, listed, a, w => Region.ready md ops listed = [] ∧ Q .normal a w
  | fuel + 1, listed, a, w =>
    (Region.ready md ops listed = [] → Q .normal a w) ∧
    ∀ i ∈ Region.ready md ops listed, wpOpIn F n P ops Q i (fun a' w' => S w' ∧ wpAnyR F n P md ops Q S fuel (listed.setIfInBounds i true) a' w') a w

theorem wpAnyIn_of_R : ∀ (fuel : Nat) (listed : Array Bool) (a : Act) (w : World), wpAnyR F n P md ops Q S fuel listed a w → wpAnyIn F n P md ops Q fuel listed a w
  | 0, _, _, _, h => h
  | fuel + 1, _, _, _, h => ⟨h.1, fun i hi => wpOpIn_mono (fun a' w' h' => wpAnyIn_of_R fuel _ a' w' h'.2) (h.2 i hi)⟩

theorem yields_wpOpIn (hp : plainOps ops = true) {i : Nat} {o : Oper} {v : Value} {a : Act} (hi : ops[i]? = some o) (hy : YieldsIf P ops S o v a)
    {K : Act → World → Prop} {w : World} (hS : S w) (h : K (a.put o.dst v) w) : wpOpIn F n P ops Q i K a w := by
  have hpo := plain_at hp hi
  unfold Go.wpOpIn
  simp only [hi]
  have hab : ∀ f, o.about P w a.eval = some f → F.fn f := fun f hf => by rw [plain_about hpo] at hf; cases hf
  rcases hy with ⟨hw, hv⟩ | ⟨hw, rfl⟩
  · simp only [hw, if_true, Oper.wpIn, Oper.semAt_eq _ _ _ (plain_not_defer hpo), hv w hS, Oper.uponIn]; exact ⟨hab, h⟩
  · simp only [hw, Bool.false_eq_true, if_false]; exact ⟨hab, h⟩

theorem wpOpIn_putIf (hp : plainOps ops = true) {j : Nat} {oi oj : Oper} {v : Value} (hj : ops[j]? = some oj) (hpi : plainOp oi.op = true) (hap : oi.apart ops oj = true)
    {K : Act → World → Prop} {a : Act} {w : World} (hQ : ∀ c a w, Q (.panic c) (a.put oi.dst v) w → Q (.panic c) a w)
    (hy : YieldsIf P ops S oi v a) (h : wpOpIn F n P ops Q j K (a.put oi.dst v) w) :
    wpOpIn F n P ops Q j (fun a' w' => YieldsIf P ops S oi v a' ∧ K (a'.put oi.dst v) w') a w := by
  have hpj := plain_at hp hj
  obtain ⟨h1, h2, h3⟩ := Oper.apart_spec hap
  have keep : ∀ (a : Act), YieldsIf P ops S oi v a → ∀ u, YieldsIf P ops S oi v (a.put oj.dst u) := fun a hy u =>
    hy.of_same (execOp_put oi (plain_not_select hpi) a oj.dst u h3) (wanted_put oi a oj.dst u h3)
  unfold wpOpIn at *
  simp only [hj] at *
  rw [wanted_put oj a oi.dst v h1, about_put oj w a oi.dst v h1] at h
  split
  · rename_i hw
    simp only [hw, if_true] at h
    unfold Oper.wpIn at *
    rw [about_put oj w a oi.dst v h1] at h
    refine ⟨h.1, ?_⟩
    have h := h.2
    rw [Oper.semAt_eq _ _ _ (plain_not_defer hpj), execOp_put oj (plain_not_select hpj) a oi.dst v h1] at h
    rw [Oper.semAt_eq _ _ _ (plain_not_defer hpj)]
    have hv := plain_value (P := P) hpj a.eval w
    generalize (execOp a.eval oj).run P w = r at *
    cases r with
    | ok x w' =>
      cases x <;> simp only [Oper.uponIn] at h ⊢
      case value u => exact ⟨keep a hy u, by rw [← Act.put_comm a v u h2]; exact h⟩
      all_goals exact hv.elim
    | halt x w' =>
      cases x <;> simp only [Oper.uponIn] at h ⊢
      case panic u => exact hQ _ _ _ h
  · rename_i hw
    simp only [hw] at h
    exact ⟨h.1, keep a hy _, by rw [← Act.put_comm a v undef h2]; exact h.2⟩

theorem wpAnyR_first (hp : plainOps ops = true) {i : Nat} {oi : Oper} {v : Value} (hi : ops[i]? = some oi)
    (hQ : ∀ c a w, Q (.panic c) (a.put oi.dst v) w → Q (.panic c) a w) :
    ∀ (fuel : Nat) (listed : Array Bool) (a : Act) (w : World),
      (∀ j oj, ops[j]? = some oj → j ≠ i → listed.getD j true = false → (∀ e ∈ oj.after, Region.binds md e = true → e.on ≠ i) → oi.apart ops oj = true) →
      i ∈ Region.ready md ops listed → YieldsIf P ops S oi v a → S w →
      wpAnyR F n P md ops Q S fuel (listed.setIfInBounds i true) (a.put oi.dst v) w → wpAnyR F n P md ops Q S (fuel + 1) listed a w := by
  intro fuel
  induction fuel with
  | zero =>
    intro listed a w _ hr hy hS H
    refine ⟨fun h => (by rw [h] at hr; cases hr), fun j hj => ?_⟩
    by_cases hji : j = i
    · subst hji; exact yields_wpOpIn hp hi hy hS ⟨hS, H⟩
    · have := ready_mono hj hji
      rw [H.1] at this
      cases this
  | succ fuel ih =>
    intro listed a w hfree hr hy hS H
    refine ⟨fun h => (by rw [h] at hr; cases hr), fun j hj => ?_⟩
    by_cases hji : j = i
    · subst hji; exact yields_wpOpIn hp hi hy hS ⟨hS, H⟩
    · have h1 := H.2 j (ready_mono hj hji)
      obtain ⟨hjun, oj, hoj, hall⟩ := mem_ready.1 hj
      have hnot : ∀ e ∈ oj.after, Region.binds md e = true → e.on ≠ i := fun e he hb heq => by
        have h1 := hall e he hb
        have h0 := (mem_ready.1 hr).1
        rw [heq] at h1
        rcases Nat.lt_or_ge i listed.size with h' | h'
        · simp [h'] at h0 h1; rw [h0] at h1; cases h1
        · simp [Array.getElem?_eq_none h'] at h1
      have h2 := wpOpIn_putIf hp hoj (plain_at hp hi) (hfree j oj hoj hji hjun hnot) hQ hy h1
      have hfree' : ∀ k ok, ops[k]? = some ok → k ≠ i → (listed.setIfInBounds j true).getD k true = false →
          (∀ e ∈ ok.after, Region.binds md e = true → e.on ≠ i) → oi.apart ops ok = true := fun k ok hk hki hun hno => by
        refine hfree k ok hk hki ?_ hno
        by_cases hjk : j = k
        · subst hjk; exact hjun
        · rw [getD_set_ne true hjk] at hun; exact hun
      refine wpOpIn_mono (fun a' w' h3 => ⟨h3.2.1, ih (listed.setIfInBounds j true) a' w' hfree' (ready_mono hr (Ne.symm hji)) h3.1 h3.2.1 ?_⟩) h2
      rw [Array.setIfInBounds_comm _ _ hji]
      exact h3.2.2

theorem wpAnyR_of_sched (hp : plainOps ops = true) (hQ : ∀ c (a : Act) d v w, Q (.panic c) (a.put d v) w → Q (.panic c) a w) : ∀ (l : List (Nat × Bool)) (listed : Array Bool) (a : Act) (w : World),
    schedOk ops l listed = true → l.all (·.2) = true → S w → wpSched P ops Q S l a w → wpAnyR F n P .any ops Q S l.length listed a w
  | [], listed, a, w, h, _, _, hw => ⟨by simpa [schedOk] using h, hw⟩
  | (i, true) :: r, listed, a, w, h, ht, hS, hw => by
    obtain ⟨o, v, hi, hy, hw⟩ := hw
    simp only [schedOk, Bool.and_eq_true] at h
    exact wpAnyR_first hp hi (fun c a w => hQ c a _ _ w) _ _ _ _ (Region.free_spec hi h.1.1) (by simpa using h.1.2) hy hS (wpAnyR_of_sched hp hQ r _ _ w h.2 (by simpa using ht) hS hw)
  | (i, false) :: r, listed, a, w, h, ht, hS, hw => by simp at ht

/-- **A drawn region that only reads, in a round of a range over a function**, walked in one order. -/
theorem wpIn_region_reads {id : Nat} {a : Act} {w : World} (sched : List (Nat × Bool)) (hm : P.follows .mixedOrders = true) (hl : (sched.length == ops.size) = true)
    (hok : (schedOk ops sched (Array.replicate ops.size false) && plainOps ops && sched.all (·.2)) = true) (hQ : ∀ c (a : Act) d v w, Q (.panic c) (a.put d v) w → Q (.panic c) a w) (hS : S w.drew) (h : wpSched P ops Q S sched a w.drew) :
    (Code.region id ops true).wpIn F n P Q a w := by
  simp only [Bool.and_eq_true] at hok
  refine wpIn_region_any hm (wpAnyIn_of_R (S := S) _ _ _ _ ?_)
  have := wpAnyR_of_sched (F := F) (n := n) hok.1.2 hQ sched _ a _ hok.1.1 hok.2 hS h
  rwa [beq_iff_eq.1 hl] at this
end

end Go.Proofs.Ytajkoeodabmgeaa
