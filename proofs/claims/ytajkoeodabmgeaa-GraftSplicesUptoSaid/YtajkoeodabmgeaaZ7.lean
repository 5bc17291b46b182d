import Derived.Test.YtajkoeodabmgeaaZ4
import Derived.Test.YtajkoeodabmgeaaZ6

section
namespace Go.Proofs.Ytajkoeodabmgeaa
open Go.RowKit
set_option maxHeartbeats 2000000
set_option maxRecDepth 100000

theorem own_type {w : World} {base : Nat} {e : TypeId} {size n : Nat} {v : Value} {xs : List Value} (h : w.ownsRow base e size v n xs) : ∀ k, v.ownBlock = some k → ∃ cs, w.heap[k]? = some (.cells cs e (0, 0)) := by
  intro k hk
  rcases h.2 with ⟨rfl, _⟩ | ⟨g, cap, cur, rfl, _, hg, _⟩
  · simp [Value.ownBlock] at hk
  · simp only [Value.ownBlock, Option.some.injEq] at hk
    subst hk
    exact ⟨cur, hg⟩
theorem own_ne {w : World} {base base' : Nat} {e e' : TypeId} {size size' n n' : Nat} {v v' : Value} {xs xs' : List Value} (h : w.ownsRow base e size v n xs) (h' : w.ownsRow base' e' size' v' n' xs') (he : e ≠ e') : v.ownBlock = none ∨ v.ownBlock ≠ v'.ownBlock := by
  cases hv : v.ownBlock with
  | none => exact .inl rfl
  | some k =>
    right
    intro hk
    obtain ⟨c, hc⟩ := own_type h k hv
    obtain ⟨c', hc'⟩ := own_type h' k hk.symm
    rw [hc] at hc'
    simp only [Option.some.injEq, Obj.cells.injEq] at hc'
    exact he hc'.2.1
theorem own_ne_block {w : World} {base : Nat} {e t : TypeId} {size n g : Nat} {v : Value} {xs : List Value} {cs : Array Value} {fr : Nat × Nat} (h : w.ownsRow base e size v n xs) (hg : w.heap[g]? = some (.cells cs t fr)) (he : e ≠ t) : v.ownBlock ≠ some g := by
  intro hk
  obtain ⟨c, hc⟩ := own_type h g hk
  rw [hc] at hg
  simp only [Option.some.injEq, Obj.cells.injEq] at hg
  exact he hg.2.1

/-- A step that may write the box and the rows' blocks, and nothing else of old. -/
theorem Kept.setCell {S : Nat → Prop} {a b : World} (h : Kept S a b) {g o : Nat} (v : Value) (hg : S g ∨ a.heap.size ≤ g) : Kept S a (b.setCell ⟨g, o, none⟩ v) :=
  ⟨h.os, h.tape, h.output, by simpa using h.size, fun k hk hs => by
    rw [Below.heap_setCell _ _ _ _ (fun e => by
      have e : k = g := e
      subst e
      rcases hg with hg | hg
      · exact hs hg
      · omega)]
    exact h.block k hk hs⟩

/-- Three rows of one's own, and a box that holds them; what the walk has written since W0 lies in S or is younger. -/
structure LS (S : Nat → Prop) (W0 W : World) (base g : Nat) (s0 s1 s2 : Value) (n0 n1 n2 : Nat) (xs0 xs1 xs2 : List Value) : Prop where
  box : W.heap[g]? = some (.cells #[s0, s1, s2] 29 (0, 0))
  r0 : W.ownsRow base 31 2 s0 n0 xs0
  r1 : W.ownsRow base 9 1 s1 n1 xs1
  r2 : W.ownsRow base 85 33 s2 n2 xs2
  hb : base ≤ W.heap.size
  kp : Kept S W0 W
  in0 : ∀ k, s0.ownBlock = some k → S k ∨ W0.heap.size ≤ k
  in1 : ∀ k, s1.ownBlock = some k → S k ∨ W0.heap.size ≤ k
  in2 : ∀ k, s2.ownBlock = some k → S k ∨ W0.heap.size ≤ k
  ing : S g ∨ W0.heap.size ≤ g

section
variable {S : Nat → Prop} {W0 W W' : World} {base g : Nat} {s0 s1 s2 : Value} {n0 n1 n2 : Nat} {xs0 xs1 xs2 : List Value}
theorem LS.lt (h : LS S W0 W base g s0 s1 s2 n0 n1 n2 xs0 xs1 xs2) : g < W.heap.size := (Array.getElem?_eq_some_iff.1 h.box).1
theorem LS.below (h : LS S W0 W base g s0 s1 s2 n0 n1 n2 xs0 xs1 xs2) (hb : Below W.heap.size W W') : LS S W0 W' base g s0 s1 s2 n0 n1 n2 xs0 xs1 xs2 :=
  ⟨(hb.block _ h.lt).trans h.box, own_below h.r0 hb, own_below h.r1 hb, own_below h.r2 hb, Nat.le_trans h.hb hb.size, h.kp.step hb, h.in0, h.in1, h.in2, h.ing⟩
theorem LS.alloc (h : LS S W0 W base g s0 s1 s2 n0 n1 n2 xs0 xs1 xs2) (o : Obj) : LS S W0 (W.alloc o) base g s0 s1 s2 n0 n1 n2 xs0 xs1 xs2 :=
  h.below ((Below.refl _ _).alloc (Nat.le_refl _) _)

/-- The box's cell is written. -/
theorem set_box (h : W.heap[g]? = some (.cells #[s0, s1, s2] 29 (0, 0))) (v : Value) :
    (W.setCell ⟨g, 0, none⟩ v).heap[g]? = some (.cells #[v, s1, s2] 29 (0, 0)) ∧ (W.setCell ⟨g, 1, none⟩ v).heap[g]? = some (.cells #[s0, v, s2] 29 (0, 0)) ∧ (W.setCell ⟨g, 2, none⟩ v).heap[g]? = some (.cells #[s0, s1, v] 29 (0, 0)) :=
  ⟨heap_setCell_same W g 0 _ _ v h, heap_setCell_same W g 1 _ _ v h, heap_setCell_same W g 2 _ _ v h⟩
theorem box_facts (h : W.heap[g]? = some (.cells #[s0, s1, s2] 29 (0, 0))) :
    (W.cell? ⟨g, 0, none⟩ = some s0 ∧ W.cell? ⟨g, 1, none⟩ = some s1 ∧ W.cell? ⟨g, 2, none⟩ = some s2) ∧ (W.frozen? ⟨g, 0, none⟩ = false ∧ W.frozen? ⟨g, 1, none⟩ = false ∧ W.frozen? ⟨g, 2, none⟩ = false) :=
  ⟨⟨cell_of_row _ _ 0 _ _ _ h, cell_of_row _ _ 1 _ _ _ h, cell_of_row _ _ 2 _ _ _ h⟩, frozen_of_row _ _ _ _ _ h, frozen_of_row _ _ _ _ _ h, frozen_of_row _ _ _ _ _ h⟩

theorem LS.mid0 (h : LS S W0 W base g s0 s1 s2 n0 n1 n2 xs0 xs1 xs2) (hg : W.grownBy W' s0.ownBlock) : W'.heap[g]? = some (.cells #[s0, s1, s2] 29 (0, 0)) :=
  (hg.block g h.lt (fun e => own_ne_block h.r0 h.box (by decide) e.symm)).trans h.box
theorem LS.mid1 (h : LS S W0 W base g s0 s1 s2 n0 n1 n2 xs0 xs1 xs2) (hg : W.grownBy W' s1.ownBlock) : W'.heap[g]? = some (.cells #[s0, s1, s2] 29 (0, 0)) :=
  (hg.block g h.lt (fun e => own_ne_block h.r1 h.box (by decide) e.symm)).trans h.box
theorem LS.mid2 (h : LS S W0 W base g s0 s1 s2 n0 n1 n2 xs0 xs1 xs2) (hg : W.grownBy W' s2.ownBlock) : W'.heap[g]? = some (.cells #[s0, s1, s2] 29 (0, 0)) :=
  (hg.block g h.lt (fun e => own_ne_block h.r2 h.box (by decide) e.symm)).trans h.box

theorem in_next {v v' : Value} (hin : ∀ k, v.ownBlock = some k → S k ∨ W0.heap.size ≤ k) (hs : W0.heap.size ≤ W.heap.size) (hx : v'.ownBlock = v.ownBlock ∨ v'.ownBlock = some W.heap.size) : ∀ k, v'.ownBlock = some k → S k ∨ W0.heap.size ≤ k := by
  intro k hk
  rcases hx with hx | hx
  · exact hin k (hx ▸ hk)
  · rw [hx] at hk
    cases hk
    exact .inr hs

theorem LS.app0 (h : LS S W0 W base g s0 s1 s2 n0 n1 n2 xs0 xs1 xs2) {v : Value} {n : Nat} {xs : List Value} (ho : W'.ownsRow base 31 2 v n xs) (hg : W.grownBy W' s0.ownBlock) (hx : v.ownBlock = s0.ownBlock ∨ v.ownBlock = some W.heap.size) :
    LS S W0 (W'.setCell ⟨g, 0, none⟩ v) base g v s1 s2 n n1 n2 xs xs1 xs2 := by
  have hm := h.mid0 hg
  have h1 := h.r1.kept hg (own_ne h.r1 h.r0 (by decide))
  have h2 := h.r2.kept hg (own_ne h.r2 h.r0 (by decide))
  exact ⟨(set_box hm v).1, ownsRow_setCell_other ho (own_ne_block ho hm (by decide)) v, ownsRow_setCell_other h1 (own_ne_block h1 hm (by decide)) v, ownsRow_setCell_other h2 (own_ne_block h2 hm (by decide)) v, by have := h.hb; have := hg.size; simp; omega,
    (h.kp.grown hg (fun k e hlt => (h.in0 k e).resolve_right (by omega))).setCell v h.ing, in_next h.in0 h.kp.size hx, h.in1, h.in2, h.ing⟩
theorem LS.app1 (h : LS S W0 W base g s0 s1 s2 n0 n1 n2 xs0 xs1 xs2) {v : Value} {n : Nat} {xs : List Value} (ho : W'.ownsRow base 9 1 v n xs) (hg : W.grownBy W' s1.ownBlock) (hx : v.ownBlock = s1.ownBlock ∨ v.ownBlock = some W.heap.size) :
    LS S W0 (W'.setCell ⟨g, 1, none⟩ v) base g s0 v s2 n0 n n2 xs0 xs xs2 := by
  have hm := h.mid1 hg
  have h1 := h.r0.kept hg (own_ne h.r0 h.r1 (by decide))
  have h2 := h.r2.kept hg (own_ne h.r2 h.r1 (by decide))
  exact ⟨(set_box hm v).2.1, ownsRow_setCell_other h1 (own_ne_block h1 hm (by decide)) v, ownsRow_setCell_other ho (own_ne_block ho hm (by decide)) v, ownsRow_setCell_other h2 (own_ne_block h2 hm (by decide)) v, by have := h.hb; have := hg.size; simp; omega,
    (h.kp.grown hg (fun k e hlt => (h.in1 k e).resolve_right (by omega))).setCell v h.ing, h.in0, in_next h.in1 h.kp.size hx, h.in2, h.ing⟩
theorem LS.app2 (h : LS S W0 W base g s0 s1 s2 n0 n1 n2 xs0 xs1 xs2) {v : Value} {n : Nat} {xs : List Value} (ho : W'.ownsRow base 85 33 v n xs) (hg : W.grownBy W' s2.ownBlock) (hx : v.ownBlock = s2.ownBlock ∨ v.ownBlock = some W.heap.size) :
    LS S W0 (W'.setCell ⟨g, 2, none⟩ v) base g s0 s1 v n0 n1 n xs0 xs1 xs := by
  have hm := h.mid2 hg
  have h1 := h.r0.kept hg (own_ne h.r0 h.r2 (by decide))
  have h2 := h.r1.kept hg (own_ne h.r1 h.r2 (by decide))
  exact ⟨(set_box hm v).2.2, ownsRow_setCell_other h1 (own_ne_block h1 hm (by decide)) v, ownsRow_setCell_other h2 (own_ne_block h2 hm (by decide)) v, ownsRow_setCell_other ho (own_ne_block ho hm (by decide)) v, by have := h.hb; have := hg.size; simp; omega,
    (h.kp.grown hg (fun k e hlt => (h.in2 k e).resolve_right (by omega))).setCell v h.ing, h.in0, h.in1, in_next h.in2 h.kp.size hx, h.ing⟩
end

end Go.Proofs.Ytajkoeodabmgeaa
end

section
namespace Go.Proofs.Ytajkoeodabmgeaa
open Go.RowKit
set_option maxHeartbeats 2000000
set_option maxRecDepth 100000

def markP : PairD := ⟨⟨#[109, 97, 114, 107]⟩, ⟨#[]⟩⟩
def markS : ByteArray := ⟨#[109, 97, 114, 107]⟩
def markK : KidD := ⟨77, List.replicate 32 0⟩
/-- A node with marks behind its lists. -/
def longN (nd : NodeD) (k : Nat) : NodeD := ⟨nd.pairs ++ List.replicate k markP, nd.seps ++ List.replicate k markS, nd.kids ++ List.replicate k markK⟩

theorem one_text (w : World) (s : ByteArray) (g : Nat) (hg : g = w.heap.size) : Rd (w.alloc (.cells #[.string s] 9)) 1 (some ⟨g, 0, none⟩) 1 (scells [s]) := by
  subst hg
  refine ⟨by simp [scells_len], fun _ => ⟨w.heap.size, 0, rfl, fun j u hu => ?_⟩⟩
  rw [Nat.zero_add, cell_of_row _ _ j _ _ _ (heap_alloc_new w _), ← hu]
  simp [scells]
theorem one_kid (w : World) (k : KidD) (hk : k.sum.length = 32) (g : Nat) (hg : g = w.heap.size) : Rd (w.alloc (.cells k.cells.toArray 85)) 33 (some ⟨g, 0, none⟩) 1 (kcells [k]) := by
  subst hg
  refine ⟨by simp [kcells, KidD.cells, hk], fun _ => ⟨w.heap.size, 0, rfl, fun j u hu => ?_⟩⟩
  rw [Nat.zero_add, cell_of_row _ _ j _ _ _ (heap_alloc_new w _), ← hu]
  simp [kcells]

theorem long_p (nd : NodeD) (k : Nat) : pcells (longN nd k).pairs ++ pcells [markP] = pcells (longN nd (k + 1)).pairs := by
  simp [longN, List.replicate_succ', pcells_append]
theorem long_s (nd : NodeD) (k : Nat) : scells (longN nd k).seps ++ scells [markS] = scells (longN nd (k + 1)).seps := by
  simp [longN, List.replicate_succ', scells_append]
theorem long_k (nd : NodeD) (k : Nat) : kcells (longN nd k).kids ++ kcells [markK] = kcells (longN nd (k + 1)).kids := by
  simp [longN, List.replicate_succ', kcells_append]

/-- The lent node under way: k marks. -/
def LM (S : Nat → Prop) (W0 W : World) (base g : Nat) (nd : NodeD) (k : Nat) (B0 : Option Addr) (d0 : Nat) (B1 : Option Addr) (d1 : Nat) (B2 : Option Addr) (d2 : Nat) : Prop :=
  LS S W0 W base g (.slice B0 (nd.pairs.length + k) d0) (.slice B1 (nd.seps.length + k) d1) (.slice B2 (nd.kids.length + k) d2) (nd.pairs.length + k) (nd.seps.length + k) (nd.kids.length + k) (pcells (longN nd k).pairs) (scells (longN nd k).seps) (kcells (longN nd k).kids)

theorem lent_c (A0 A1 A2 : Option Addr) (c0 c1 c2 : Nat) (nd : NodeD) (w : World) (hN : RdN w A0 c0 A1 c1 A2 c2 nd) (hR : Room 4 nd) :
    Calls Try.prog 21 #[vN A0 c0 A1 c1 A2 c2 nd] w fun e w' =>
      ∃ B0 d0 B1 d1 B2 d2, e = .returned (vN B0 d0 B1 d1 B2 d2 nd) ∧ OwN w' w.heap.size w'.heap.size B0 d0 B1 d1 B2 d2 (longN nd 4) ∧ Below w.heap.size w w' := by
  obtain ⟨i0, hi, hz0, hz1, hz2⟩ := info_parts info31
  obtain ⟨j0, hj, hy0, hy1, hy2⟩ := info_parts info9
  obtain ⟨k0, hik, hx0, hx1, hx2⟩ := info_parts info85'
  have HX0 := Lib.hid hx0
  clear hx0
  have HN := Lib.hid hN
  have HR0 : Hid (∀ k, k < 4 → (nd.pairs.length + k + 1) * 32 ≤ 140737488355328) := fun k hk => Nat.le_trans (Nat.mul_le_mul_right 32 (by omega : nd.pairs.length + k + 1 ≤ nd.pairs.length + 4)) hR.p
  have HR1 : Hid (∀ k, k < 4 → (nd.seps.length + k + 1) * 16 ≤ 140737488355328) := fun k hk => Nat.le_trans (Nat.mul_le_mul_right 16 (by omega : nd.seps.length + k + 1 ≤ nd.seps.length + 4)) hR.s
  have HR2 : Hid (∀ k, k < 4 → (nd.kids.length + k + 1) * 36 ≤ 140737488355328) := fun k hk => Nat.le_trans (Nat.mul_le_mul_right 36 (by omega : nd.kids.length + k + 1 ≤ nd.kids.length + 4)) hR.k
  have HRR := Lib.hid hR
  clear hN hR
  go_enter Try.func21, Try.ntmps21
  go_wp2_with (first
    | (go_at_call 60; refine (copy_c A0 A1 A2 c0 c1 c2 nd _ (HN.out.below (cW_below rfl cW_start))).mono ?_; rintro e w1 ⟨B0, d0, B1, d1, B2, d2, rfl, hown, hb1⟩; have HO := Lib.hid hown; clear hown))
  have hS1 := (@cW_start w (.slice A0 nd.pairs.length c0) (.slice A1 nd.seps.length c1) (.slice A2 nd.kids.length c2)).step hb1
  have hL0 : LM (fun _ => False) (cW w (.slice A0 nd.pairs.length c0) (.slice A1 nd.seps.length c1) (.slice A2 nd.kids.length c2)) (w1.alloc (.cells #[.slice B0 nd.pairs.length d0, .slice B1 nd.seps.length d1, .slice B2 nd.kids.length d2] 29)) (w.heap.size + 1 + 1) w1.heap.size nd 0 B0 d0 B1 d1 B2 d2 := by
    have hz : (cW w (.slice A0 nd.pairs.length c0) (.slice A1 nd.seps.length c1) (.slice A2 nd.kids.length c2)).heap.size = w.heap.size + 1 + 1 := by simp [cW]
    have h := HO.out
    rw [hz] at h
    have hsz := hb1.size
    exact ⟨heap_alloc_new _ _, by simpa [longN] using h.pairs.alloc _, by simpa [longN] using h.seps.alloc _, by simpa [longN] using h.kids.alloc _, by rw [hz] at hsz; simp; omega, (Kept.of_below hb1).alloc _,
      fun k hk => .inr (hz ▸ (h.pairs.lt k (by simpa using hk)).1), fun k hk => .inr (hz ▸ (h.seps.lt k (by simpa using hk)).1), fun k hk => .inr (hz ▸ (h.kids.lt k (by simpa using hk)).1), .inr hsz⟩
  go_loopw [4] (fun i wr => ∃ k : Nat, k ≤ 4 ∧ i = .int .i64 k ∧ (∃ B0 d0 B1 d1 B2 d2, Hid (LM (fun _ => False) (cW w (.slice A0 nd.pairs.length c0) (.slice A1 nd.seps.length c1) (.slice A2 nd.kids.length c2)) wr (w.heap.size + 1 + 1) w1.heap.size nd k B0 d0 B1 d1 B2 d2))) (fun i _ => 4 - (intOf i).toNat)
  case atStart => exact ⟨0, by omega, rfl, ⟨B0, d0, B1, d1, B2, d2, hL0⟩⟩
  case round =>
    clear hL0 hS1 HO
    obtain ⟨k, hk, rfl, ⟨B0, d0, B1, d1, B2, d2, HL⟩⟩ := hrel
    have hL : LS _ _ _ _ _ _ _ _ _ _ _ _ _ _ := HL.out
    obtain ⟨⟨q0, q1, q2⟩, q3, q4, q5⟩ := box_facts hL.box
    have HL := Lib.hid hL
    clear hL
    by_cases hlt : k < 4
    · have HA0 := Lib.hid (HL.out.alloc (.cells #[.string ⟨#[109, 97, 114, 107]⟩, .string ⟨#[]⟩] 31))
      go_wp2_with (first
        | (at_builtin; refine wpList_append_rd rfl (.tmp 12) (.tmp 14) 25 rfl (w.heap.size + 1 + 1) 31 Try.underlying25 hi hz0 hz1 hz2 rfl (by decide) rfl HA0.out.r0 rfl (one_pair wr markP) (pc1 [markP]) (HR0.out k hlt) (by decide) HA0.out.hb ?_; intro v1 w2 hown hg hx; clear q0 q1 q2 q3 q4 q5; obtain ⟨E0, f0, rfl, _, _⟩ := own_rd hown; have HA1 := Lib.hid ((HA0.out.app0 hown hg hx.1).alloc (.cells #[.string ⟨#[109, 97, 114, 107]⟩] 9)); obtain ⟨⟨q0, q1, q2⟩, q3, q4, q5⟩ := box_facts (HA0.out.mid0 hg); clear hown hg hx HA0)
        | (at_builtin; refine wpList_append_rd rfl (.tmp 18) (.tmp 19) 26 rfl (w.heap.size + 1 + 1) 9 Try.underlying26 hj hy0 hy1 hy2 rfl (by decide) rfl HA1.out.r1 rfl (one_text _ markS _ (by simp)) (sc1 [markS]) (HR1.out k hlt) (by decide) HA1.out.hb ?_; intro v2 w3 hown hg hx; clear q0 q1 q2 q3 q4 q5; obtain ⟨E1, f1, rfl, _, _⟩ := own_rd hown; have HA2 := Lib.hid ((HA1.out.app1 hown hg hx.1).alloc (.cells markK.cells.toArray 85)); obtain ⟨⟨q0, q1, q2⟩, q3, q4, q5⟩ := box_facts (HA1.out.mid1 hg); clear hown hg hx HA1)
        | (at_builtin; refine wpList_append_rd rfl (.tmp 23) (.tmp 25) 27 rfl (w.heap.size + 1 + 1) 85 Try.underlying27 hik HX0.out hx1 hx2 (by kernel_rfl) (by decide) rfl HA2.out.r2 rfl (one_kid _ markK rfl _ (by simp)) (kc1 [markK]) (HR2.out k hlt) (by decide) HA2.out.hb ?_; intro v3 w4 hown hg hx; clear q0 q1 q2 q3 q4 q5; obtain ⟨E2, f2, rfl, _, _⟩ := own_rd hown; have HA3 := Lib.hid (HA2.out.app2 hown hg hx.1); obtain ⟨⟨q0, q1, q2⟩, q3, q4, q5⟩ := box_facts (HA2.out.mid2 hg); clear hown hg hx HA2))
      go_roundw
      case rel =>
        have h3 := HA3.out
        have e0 : pcells (longN nd k).pairs ++ pcells [markP] = _ := long_p nd k
        have e1 : scells (longN nd k).seps ++ scells [markS] = _ := long_s nd k
        have e2 : kcells (longN nd k).kids ++ kcells [markK] = _ := long_k nd k
        rw [e0, e1, e2] at h3
        exact ⟨k + 1, by omega, by go_num, ⟨E0, f0, E1, f1, E2, f2, h3⟩⟩
      case measure => simp [intOf]; omega
    · obtain rfl : k = 4 := by omega
      go_wp2
      have hL : LS _ _ _ _ _ _ _ _ _ _ _ _ _ _ := HL.out
      have hsz : w.heap.size + 1 + 1 ≤ w1.heap.size := by have := hb1.size; simpa [cW] using this
      have hbw : Below (w.heap.size + 1 + 1) (cW w (.slice A0 nd.pairs.length c0) (.slice A1 nd.seps.length c1) (.slice A2 nd.kids.length c2)) wr := hL.kp.below (by simp [cW]) (fun _ _ h => h)
      have hS1 : Box (w.heap.size + 1) 3 29 (cW w (.slice A0 nd.pairs.length c0) (.slice A1 nd.seps.length c1) (.slice A2 nd.kids.length c2)) wr := ⟨hbw.mono (by omega), _, (hbw.block _ (by omega)).trans (alloc2_at w _ _), rfl⟩
      have hg1 := hL.box
      have d0c : ((nd.pairs.length : Nat) : Int) ≤ d0 := by have := (own_rd' hL.r0).1; omega
      have d1c : ((nd.seps.length : Nat) : Int) ≤ d1 := by have := (own_rd' hL.r1).1; omega
      have d2c : ((nd.kids.length : Nat) : Int) ≤ d2 := by have := (own_rd' hL.r2).1; omega
      have HF : Hid (∀ W, (Box (w.heap.size + 1) 3 29 (cW w (.slice A0 nd.pairs.length c0) (.slice A1 nd.seps.length c1) (.slice A2 nd.kids.length c2)) W ∧ W.heap[w1.heap.size]? = some (.cells #[.slice B0 (nd.pairs.length + 4) d0, .slice B1 (nd.seps.length + 4) d1, .slice B2 (nd.kids.length + 4) d2] 29 (0, 0))) → (W.cell? ⟨w.heap.size, 0, none⟩ = some (.slice A0 nd.pairs.length c0) ∧ W.cell? ⟨w.heap.size, 1, none⟩ = some (.slice A1 nd.seps.length c1) ∧ W.cell? ⟨w.heap.size, 2, none⟩ = some (.slice A2 nd.kids.length c2)) ∧ (W.cell? ⟨w1.heap.size, 0, none⟩ = some (.slice B0 (nd.pairs.length + 4) d0) ∧ W.cell? ⟨w1.heap.size, 1, none⟩ = some (.slice B1 (nd.seps.length + 4) d1) ∧ W.cell? ⟨w1.heap.size, 2, none⟩ = some (.slice B2 (nd.kids.length + 4) d2))) :=
        fun W h => ⟨cW_cells h.1, (box_facts h.2).1⟩
      clear hL q0 q1 q2 q3 q4 q5
      refine wp_region_sched (S := fun W => Box (w.heap.size + 1) 3 29 (cW w (.slice A0 nd.pairs.length c0) (.slice A1 nd.seps.length c1) (.slice A2 nd.kids.length c2)) W ∧ W.heap[w1.heap.size]? = some (.cells #[.slice B0 (nd.pairs.length + 4) d0, .slice B1 (nd.seps.length + 4) d1, .slice B2 (nd.kids.length + 4) d2] 29 (0, 0)))
        [(0, true), (1, true), (2, true), (3, true), (4, true), (5, true), (6, true), (7, true), (8, true), (9, true), (10, true), (11, true), (12, true), (13, true), (14, true), (15, true), (16, true), (17, true), (18, true), (19, false)]
        (by kernel_rfl) (by kernel_rfl) (by kernel_rfl) (fun _ _ d _ _ h => by cases d <;> exact h) ⟨hS1.drew, hg1⟩ ?_
      repeat (apply sched_take; (exact rfl); rfl; (intro W hW; obtain ⟨⟨q0, q1, q2⟩, q3, q4, q5⟩ := HF.out W hW; go_simp; (try with_reducible rfl)); simp only [Act.put, List.setIfInBounds_toArray, List.set_cons_zero, List.set_cons_succ])
      apply sched_run; (exact rfl); rfl; intro K hK
      refine wp_store_box hS1.drew 29 (.tmp 2) (.tmp 46) rfl _ rfl rfl info29' rfl ?_ ?_
      · exact sl3_one _ _ _ _ _ _ _ _ _
      refine hK.out _ _ ⟨hS1.drew.setRow _ rfl, (setRow_other _ _ _ _ (by omega)).trans hg1⟩ (fun _ => ?_)
      clear hK K
      refine sched_done ?_
      go_wp2
      refine bodyPost_ret (results_cell_row rfl _ _ (w.heap.size + 1) 29 _ (0, 0) _ rfl (hS1.drew.2.setRow _ rfl).2 Try.underlying29 rfl info29') rfl ?_
      have hL : LS _ _ _ _ _ _ _ _ _ _ _ _ _ _ := HL.out
      have hR := HRR.out
      have hN := HN.out
      have e0 : (longN nd 4).pairs.length = nd.pairs.length + 4 := by simp [longN]
      have e1 : (longN nd 4).seps.length = nd.seps.length + 4 := by simp [longN]
      have e2 : (longN nd 4).kids.length = nd.kids.length + 4 := by simp [longN]
      have h0 : OwN wr.drew (w.heap.size + 1 + 1) wr.heap.size B0 d0 B1 d1 B2 d2 (longN nd 4) :=
        { pairs := by rw [e0]; exact hL.r0
          seps := by rw [e1]; exact hL.r1
          kids := by rw [e2]; exact hL.r2
          u0 := by rw [e0]; exact own_lt hL.r0
          u1 := by rw [e1]; exact own_lt hL.r1
          u2 := by rw [e2]; exact own_lt hL.r2
          hp := by rw [e0]; exact hR.p
          hs := by rw [e1]; exact hR.s
          hk := by rw [e2]; exact hR.k
          pk := fun p hp => by
            simp only [longN, List.mem_append, List.mem_replicate] at hp
            rcases hp with hp | ⟨_, rfl⟩
            · exact hN.pk p hp
            · exact ⟨by decide, by decide⟩
          sk := fun p hp => by
            simp only [longN, List.mem_append, List.mem_replicate] at hp
            rcases hp with hp | ⟨_, rfl⟩
            · exact hN.sk p hp
            · decide
          kk := fun p hp => by
            simp only [longN, List.mem_append, List.mem_replicate] at hp
            rcases hp with hp | ⟨_, rfl⟩
            · exact hN.kk p hp
            · rfl }
      exact ⟨B0, d0, B1, d1, B2, d2, rfl, (h0.setRow _ _ (by omega)).wide (by omega) (by simp [World.setRow]), cW_below rfl (hS1.drew.setRow _ rfl)⟩

end Go.Proofs.Ytajkoeodabmgeaa
end

section
namespace Go.Proofs.Ytajkoeodabmgeaa
open Go.RowKit
set_option maxHeartbeats 2000000
set_option maxRecDepth 100000

theorem long_len (nd : NodeD) (k : Nat) : (longN nd k).pairs.length = nd.pairs.length + k ∧ (longN nd k).seps.length = nd.seps.length + k ∧ (longN nd k).kids.length = nd.kids.length + k := by simp [longN]

/-- A node that reads with marks behind it reads. -/
theorem RdN.short {w : World} {A0 A1 A2 : Option Addr} {c0 c1 c2 k : Nat} {nd : NodeD} (h : RdN w A0 c0 A1 c1 A2 c2 (longN nd k)) : RdN w A0 c0 A1 c1 A2 c2 nd := by
  obtain ⟨l0, l1, l2⟩ := long_len nd k
  have hkk : ∀ q ∈ nd.kids, q.sum.length = 32 := fun q hq => h.kk q (by simp [longN, hq])
  exact {
    pairs := by
      have := h.pairs.take (k := nd.pairs.length) (by omega)
      rw [pcells_take] at this
      simpa [longN] using this
    seps := by
      have := h.seps.take (k := nd.seps.length) (by omega)
      rw [scells_take] at this
      simpa [longN] using this
    kids := by
      have := h.kids.take (k := nd.kids.length) (by omega)
      rw [kcells_take _ _ h.kk] at this
      simpa [longN] using this
    hp := by have := h.hp; omega
    hs := by have := h.hs; omega
    hk := by have := h.hk; omega
    hcp := by have := h.hcp; omega
    hcs := by have := h.hcs; omega
    hck := by have := h.hck; omega
    pk := fun q hq => h.pk q (by simp [longN, hq])
    sk := fun q hq => h.sk q (by simp [longN, hq])
    kk := hkk }

theorem long_at {nd : NodeD} {k j : Nat} (_h : j < k) : (∀ h', (longN nd k).pairs[nd.pairs.length + j]'h' = markP) ∧ (∀ h', (longN nd k).seps[nd.seps.length + j]'h' = markS) ∧ (∀ h', (longN nd k).kids[nd.kids.length + j]'h' = markK) := by
  refine ⟨fun h' => ?_, fun h' => ?_, fun h' => ?_⟩
  · simp [longN, List.getElem_append_right]
  · simp [longN, List.getElem_append_right]
  · simp [longN, List.getElem_append_right]

/-- What stands in the room behind a lent node's lists. -/
theorem marks_at {w : World} {B0 B1 B2 : Option Addr} {d0 d1 d2 : Nat} {nd : NodeD} (h : RdN w B0 d0 B1 d1 B2 d2 (longN nd 4)) {j : Nat} (hj : j < 4) :
    ∃ b0 o0 b1 o1 b2 o2, B0 = some ⟨b0, o0, none⟩ ∧ B1 = some ⟨b1, o1, none⟩ ∧ B2 = some ⟨b2, o2, none⟩ ∧ w.cell? ⟨b0, o0 + (nd.pairs.length + j) * 2, none⟩ = some (.string ⟨#[109, 97, 114, 107]⟩) ∧
      w.cell? ⟨b1, o1 + (nd.seps.length + j), none⟩ = some (.string ⟨#[109, 97, 114, 107]⟩) ∧ w.cell? ⟨b2, o2 + (nd.kids.length + j) * 33, none⟩ = some (.int .u32 77) := by
  obtain ⟨l0, l1, l2⟩ := long_len nd 4
  obtain ⟨e0, e1, e2⟩ := @long_at nd 4 j hj
  obtain ⟨b0, o0, h0, p0, _⟩ := pairs_at h.pairs (k := nd.pairs.length + j) (by omega)
  obtain ⟨b1, o1, h1, p1⟩ := seps_at h.seps (k := nd.seps.length + j) (by omega)
  obtain ⟨b2, o2, h2, p2⟩ := kids_at h.kids h.kk (k := nd.kids.length + j) (by omega)
  rw [e0] at p0
  rw [e1] at p1
  rw [e2] at p2
  exact ⟨b0, o0, b1, o1, b2, o2, h0, h1, h2, p0, p1, p2 0 (.int .u32 77) rfl⟩

end Go.Proofs.Ytajkoeodabmgeaa
end

section
namespace Go.Proofs.Ytajkoeodabmgeaa
open Go.RowKit
set_option maxHeartbeats 2000000
set_option maxRecDepth 100000

theorem kept_c (A0 A1 A2 B0 B1 B2 : Option Addr) (c0 c1 c2 d0 d1 d2 : Nat) (nd : NodeD) (w : World) (hX : RdN w B0 d0 B1 d1 B2 d2 (longN nd 4)) (hN : RdN w A0 c0 A1 c1 A2 c2 nd) :
    Calls Try.prog 24 #[vN B0 d0 B1 d1 B2 d2 nd, vN A0 c0 A1 c1 A2 c2 nd] w fun e w' => e = .returned (.bool true) ∧ Below w.heap.size w w' := by
  obtain ⟨l0, l1, l2⟩ := long_len nd 4
  have hcp := hX.hcp
  have hcs := hX.hcs
  have hck := hX.hck
  have hp := hN.hp
  have hs := hN.hs
  have hk := hN.hk
  rw [l0] at hcp
  rw [l1] at hcs
  rw [l2] at hck
  have g0 : (nd.pairs.length : Int) + 4 ≤ d0 := by omega
  have g1 : (nd.seps.length : Int) + 4 ≤ d1 := by omega
  have g2 : (nd.kids.length : Int) + 4 ≤ d2 := by omega
  have z0 : (0 : Int) ≤ (nd.pairs.length : Int) + 4 := by omega
  have z1 : (0 : Int) ≤ (nd.seps.length : Int) + 4 := by omega
  have z2 : (0 : Int) ≤ (nd.kids.length : Int) + 4 := by omega
  obtain ⟨b0, o0, b1, o1, b2, o2, rfl, rfl, rfl, _, _, _⟩ := marks_at hX (j := 0) (by omega)
  have HM : Hid (∀ W, Below w.heap.size w W → ∀ j, j < 4 → W.cell? ⟨b0, o0 + (nd.pairs.length + j) * 2, none⟩ = some (.string ⟨#[109, 97, 114, 107]⟩) ∧
      W.cell? ⟨b1, o1 + (nd.seps.length + j), none⟩ = some (.string ⟨#[109, 97, 114, 107]⟩) ∧ W.cell? ⟨b2, o2 + (nd.kids.length + j) * 33, none⟩ = some (.int .u32 77)) := by
    intro W hW j hj
    obtain ⟨_, _, _, _, _, _, h0, h1, h2, p⟩ := marks_at (hX.below hW) hj
    cases h0; cases h1; cases h2
    exact p
  have HX := Lib.hid hX.short
  have HN := Lib.hid hN
  clear hX hN l0 l1 l2 hcp hcs hck
  go_enter Try.func24, Try.ntmps24
  go_wp2_with (first
    | (go_at_call 50; refine (same_c _ _ _ _ _ _ _ _ _ _ _ _ nd _ (HX.out.nodes (Below.refl _ _)) (HN.out.nodes (Below.refl _ _))).mono ?_; rintro e w1 ⟨rfl, hb⟩; have hBB := hb.mono (B' := w.heap.size + 1 + 1) (by simp); clear hb; obtain ⟨⟨q0, q1, q2⟩, ⟨q3, q4, q5⟩, q6⟩ := two_nodes hBB))
  clear q0 q1 q2 q3 q4 q5 q6
  obtain ⟨wa, rfl⟩ : ∃ wa : World, wa = w1 := ⟨_, rfl⟩
  go_loopw [8] (fun i wr => ∃ k : Nat, k ≤ 4 ∧ i = .int .i64 k ∧ Below (w.heap.size + 1 + 1) ((w.alloc (.cells #[.slice (some ⟨b0, o0, none⟩) nd.pairs.length d0, .slice (some ⟨b1, o1, none⟩) nd.seps.length d1, .slice (some ⟨b2, o2, none⟩) nd.kids.length d2] 29)).alloc (.cells #[.slice A0 nd.pairs.length c0, .slice A1 nd.seps.length c1, .slice A2 nd.kids.length c2] 29)) wr) (fun i _ => 4 - (intOf i).toNat)
  case atStart => exact ⟨0, by omega, rfl, hBB⟩
  case round =>
    clear hBB
    obtain ⟨k, hkk, rfl, hBB⟩ := hrel
    obtain ⟨⟨q0, q1, q2⟩, ⟨q3, q4, q5⟩, q6⟩ := two_nodes hBB
    have hBw : Below w.heap.size w wr := (((Below.refl _ _).alloc (Nat.le_refl _) _).alloc (by simp) _).trans (hBB.mono (by omega))
    by_cases hlt : k < 4
    · obtain ⟨p0, p1, p2⟩ := HM.out wr hBw k hlt
      have hki : (k : Int) < 4 := by omega
      have f0 : (nd.pairs.length : Int) + k < (nd.pairs.length : Int) + 4 := by omega
      have f1 : (nd.seps.length : Int) + k < (nd.seps.length : Int) + 4 := by omega
      have f2 : (nd.kids.length : Int) + k < (nd.kids.length : Int) + 4 := by omega
      have y0 : (0 : Int) ≤ (nd.pairs.length : Int) + k := by omega
      have y1 : (0 : Int) ≤ (nd.seps.length : Int) + k := by omega
      have y2 : (0 : Int) ≤ (nd.kids.length : Int) + k := by omega
      have t0 : ((nd.pairs.length : Int) + k).toNat = nd.pairs.length + k := by omega
      have t1 : ((nd.seps.length : Int) + k).toNat = nd.seps.length + k := by omega
      have t2 : ((nd.kids.length : Int) + k).toNat = nd.kids.length + k := by omega
      go_wp2
      go_roundw
      case rel => exact ⟨k + 1, by omega, by go_num, hBB⟩
      case measure => simp [intOf]; omega
    · obtain rfl : k = 4 := by omega
      go_wp2
      go_ret
      exact ⟨rfl, hBw⟩

end Go.Proofs.Ytajkoeodabmgeaa
end

section
namespace Go.Proofs.Ytajkoeodabmgeaa
open Go.RowKit
set_option maxHeartbeats 2000000
set_option maxRecDepth 100000

/-- A row of which nobody asks what it holds. -/
def Ow (W : World) (base : Nat) (e : TypeId) (size : Nat) (v : Value) (n : Nat) : Prop := ∃ xs, W.ownsRow base e size v n xs

theorem LS.set0 {S : Nat → Prop} {W0 W : World} {base g b c : Nat} {s1 s2 : Value} {n0 n1 n2 : Nat} {xs0 xs1 xs2 : List Value} (h : LS S W0 W base g (.slice (some ⟨b, 0, none⟩) n0 c) s1 s2 n0 n1 n2 xs0 xs1 xs2) (j : Nat) (u : Value) :
    LS S W0 (W.setCell ⟨b, j, none⟩ u) base g (.slice (some ⟨b, 0, none⟩) n0 c) s1 s2 n0 n1 n2 (xs0.set j u) xs1 xs2 := by
  have hb : b ≠ g := fun e => own_ne_block h.r0 h.box (by decide) (by simp [Value.ownBlock, e])
  have hn1 := own_ne h.r1 h.r0 (by decide)
  have hn2 := own_ne h.r2 h.r0 (by decide)
  obtain ⟨h1, hg⟩ := h.r0.stored j u
  exact ⟨(Below.heap_setCell _ _ _ _ (fun e => hb e.symm)).trans h.box, h1, h.r1.kept hg hn1, h.r2.kept hg hn2, by have := h.hb; simpa using this,
    h.kp.setCell u (h.in0 b rfl), h.in0, h.in1, h.in2, h.ing⟩
theorem LS.set1 {S : Nat → Prop} {W0 W : World} {base g b c : Nat} {s0 s2 : Value} {n0 n1 n2 : Nat} {xs0 xs1 xs2 : List Value} (h : LS S W0 W base g s0 (.slice (some ⟨b, 0, none⟩) n1 c) s2 n0 n1 n2 xs0 xs1 xs2) (j : Nat) (u : Value) :
    LS S W0 (W.setCell ⟨b, j, none⟩ u) base g s0 (.slice (some ⟨b, 0, none⟩) n1 c) s2 n0 n1 n2 xs0 (xs1.set j u) xs2 := by
  have hb : b ≠ g := fun e => own_ne_block h.r1 h.box (by decide) (by simp [Value.ownBlock, e])
  have hn1 := own_ne h.r0 h.r1 (by decide)
  have hn2 := own_ne h.r2 h.r1 (by decide)
  obtain ⟨h1, hg⟩ := h.r1.stored j u
  exact ⟨(Below.heap_setCell _ _ _ _ (fun e => hb e.symm)).trans h.box, h.r0.kept hg hn1, h1, h.r2.kept hg hn2, by have := h.hb; simpa using this,
    h.kp.setCell u (h.in1 b rfl), h.in0, h.in1, h.in2, h.ing⟩
theorem LS.set2 {S : Nat → Prop} {W0 W : World} {base g b c : Nat} {s0 s1 : Value} {n0 n1 n2 : Nat} {xs0 xs1 xs2 : List Value} (h : LS S W0 W base g s0 s1 (.slice (some ⟨b, 0, none⟩) n2 c) n0 n1 n2 xs0 xs1 xs2) (j : Nat) (u : Value) :
    LS S W0 (W.setCell ⟨b, j, none⟩ u) base g s0 s1 (.slice (some ⟨b, 0, none⟩) n2 c) n0 n1 n2 xs0 xs1 (xs2.set j u) := by
  have hb : b ≠ g := fun e => own_ne_block h.r2 h.box (by decide) (by simp [Value.ownBlock, e])
  have hn1 := own_ne h.r0 h.r2 (by decide)
  have hn2 := own_ne h.r1 h.r2 (by decide)
  obtain ⟨h1, hg⟩ := h.r2.stored j u
  exact ⟨(Below.heap_setCell _ _ _ _ (fun e => hb e.symm)).trans h.box, h.r0.kept hg hn1, h.r1.kept hg hn2, h1, by have := h.hb; simpa using this,
    h.kp.setCell u (h.in2 b rfl), h.in0, h.in1, h.in2, h.ing⟩
/-- Many cells of the third row. -/
theorem LS.set2s {S : Nat → Prop} {W0 : World} {base g b c : Nat} {s0 s1 : Value} {n0 n1 n2 : Nat} {xs0 xs1 : List Value} : ∀ (us : List Value) (j : Nat) (W : World) (xs2 : List Value), LS S W0 W base g s0 s1 (.slice (some ⟨b, 0, none⟩) n2 c) n0 n1 n2 xs0 xs1 xs2 →
    ∃ ys, LS S W0 (W.setCells b j us) base g s0 s1 (.slice (some ⟨b, 0, none⟩) n2 c) n0 n1 n2 xs0 xs1 ys
  | [], _, _, xs2, h => ⟨xs2, h⟩
  | u :: us, j, _, _, h => LS.set2s us (j + 1) _ _ (h.set2 j u)

/-- A row's form, if it has elements. -/
theorem own_form {w : World} {base : Nat} {e : TypeId} {size n c : Nat} {A : Option Addr} {xs : List Value} (h : w.ownsRow base e size (.slice A n c) n xs) (hn : 0 < n) : ∃ b, A = some ⟨b, 0, none⟩ := by
  rcases h.2 with ⟨e, h0⟩ | ⟨g, cap, cur, hv, _⟩
  · omega
  · cases hv; exact ⟨g, rfl⟩

theorem own_there {w : World} {base : Nat} {e : TypeId} {size n c b : Nat} {xs : List Value} (h : w.ownsRow base e size (.slice (some ⟨b, 0, none⟩) n c) n xs) (o m : Nat) (hm : o + m ≤ n * size) : w.there b o m := fun j hj => by
  refine ⟨?_, h.frozenAt _⟩
  rw [h.cellAt _ (by omega), List.getElem?_eq_getElem (by rw [h.1]; omega)]
  rfl

end Go.Proofs.Ytajkoeodabmgeaa
end

section
namespace Go.Proofs.Ytajkoeodabmgeaa
open Go.RowKit
set_option maxHeartbeats 2000000
set_option maxRecDepth 100000

def moreP : PairD := ⟨⟨#[109, 111, 114, 101]⟩, ⟨#[]⟩⟩
def moreS : ByteArray := ⟨#[109, 111, 114, 101]⟩
def moreK : KidD := ⟨98, List.replicate 32 0⟩
def overK : KidD := ⟨99, List.replicate 32 0⟩

theorem overK_size : overK.cells.toArray.size = 33 := by kernel_rfl
theorem overK_one : overK.cells.toArray.all (·.oneCell') = true := by kernel_rfl

theorem overK_info : (Try.prog.info? 85).map (·.size) = some overK.cells.toArray.size := by rw [overK_size]; exact info85

theorem spoil_store {ops : Array Oper} {rest : List Oper} {op : Oper} {a : Act} {W : World} {Q : Exit → Act → World → Prop} (b o : Nat) (hth : Hid (W.there b o overK.cells.toArray.size)) (hgd : op.guard = none) (ho : op.op = .store 85 (.tmp 41) (.tmp 40))
    (hx : a.eval (.tmp 41) = .pointer (some ⟨b, o, none⟩)) (hy : a.eval (.tmp 40) = .agg overK.cells.toArray)
    (h : wpList Try.prog ops Q rest (a.put op.dst undef) (W.setCells b o overK.cells)) : wpList Try.prog ops Q (op :: rest) a W :=
  wpList_store_mid hgd 85 (.tmp 41) (.tmp 40) ho b o overK.cells.toArray hx hy hth overK_info overK_one h

theorem one_pair' (w : World) (p : PairD) (g : Nat) (hg : g = w.heap.size) : Rd (w.alloc (.cells #[.string p.k, .string p.v] 31)) 2 (some ⟨g, 0, none⟩) 1 (pcells [p]) := by
  subst hg; exact one_pair w p

theorem spoil_c (A0 A1 A2 : Option Addr) (c0 c1 c2 : Nat) (nd : NodeD) (w : World) (lo hi : Nat) (hN : OwN w lo hi A0 c0 A1 c1 A2 c2 nd) (hR : Room 6 nd) (hlo : lo ≤ w.heap.size) :
    Calls Try.prog 25 #[vN A0 c0 A1 c1 A2 c2 nd] w fun e w' => (∃ r, e = .returned r) ∧ Kept (fun k => lo ≤ k ∧ k < hi) w w' := by
  obtain ⟨i0, hi0, hz0, hz1, hz2⟩ := info_parts info31
  obtain ⟨j0, hj, hy0, hy1, hy2⟩ := info_parts info9
  obtain ⟨k0, hik, hx0, hx1, hx2⟩ := info_parts info85'
  have HX0 := Lib.hid hx0
  clear hx0
  have HR0 : Hid (∀ k, k < 6 → (nd.pairs.length + k + 1) * 32 ≤ 140737488355328) := fun k hk => Nat.le_trans (Nat.mul_le_mul_right 32 (by omega : nd.pairs.length + k + 1 ≤ nd.pairs.length + 6)) hR.p
  have HR1 : Hid (∀ k, k < 6 → (nd.seps.length + k + 1) * 16 ≤ 140737488355328) := fun k hk => Nat.le_trans (Nat.mul_le_mul_right 16 (by omega : nd.seps.length + k + 1 ≤ nd.seps.length + 6)) hR.s
  have HR2 : Hid (∀ k, k < 6 → (nd.kids.length + k + 1) * 36 ≤ 140737488355328) := fun k hk => Nat.le_trans (Nat.mul_le_mul_right 36 (by omega : nd.kids.length + k + 1 ≤ nd.kids.length + 6)) hR.k
  have hp := hN.hp
  have hs := hN.hs
  have hk := hN.hk
  have hL0 : LS (fun k => lo ≤ k ∧ k < hi) w (w.alloc (.cells #[.slice A0 nd.pairs.length c0, .slice A1 nd.seps.length c1, .slice A2 nd.kids.length c2] 29)) lo w.heap.size (.slice A0 nd.pairs.length c0) (.slice A1 nd.seps.length c1) (.slice A2 nd.kids.length c2)
      nd.pairs.length nd.seps.length nd.kids.length (pcells nd.pairs) (scells nd.seps) (kcells nd.kids) :=
    ⟨heap_alloc_new _ _, hN.pairs.alloc _, hN.seps.alloc _, hN.kids.alloc _, by simp; omega, (Kept.refl _ _).alloc _, fun k hk => .inl ⟨(hN.pairs.lt k hk).1, hN.u0 k hk⟩, fun k hk => .inl ⟨(hN.seps.lt k hk).1, hN.u1 k hk⟩, fun k hk => .inl ⟨(hN.kids.lt k hk).1, hN.u2 k hk⟩, .inr (Nat.le_refl _)⟩
  have HL0 := Lib.hid hL0
  clear hN hR hL0
  go_enter Try.func25, Try.ntmps25
  go_wp2
  go_loopw [3] (fun i wr => ∃ k : Nat, k ≤ nd.pairs.length ∧ i = .int .i64 k ∧ (∃ xs0 xs1 xs2, Hid (LS (fun k => lo ≤ k ∧ k < hi) w wr lo w.heap.size (.slice A0 nd.pairs.length c0) (.slice A1 nd.seps.length c1) (.slice A2 nd.kids.length c2) nd.pairs.length nd.seps.length nd.kids.length xs0 xs1 xs2))) (fun i _ => nd.pairs.length - (intOf i).toNat)
  case atStart => exact ⟨0, Nat.zero_le _, rfl, _, _, _, HL0⟩
  case round =>
    clear HL0
    obtain ⟨k, hkk, rfl, xs0, xs1, xs2, HL⟩ := hrel
    obtain ⟨⟨q0, q1, q2⟩, q3, q4, q5⟩ := box_facts HL.out.box
    by_cases hlt : k < nd.pairs.length
    · obtain ⟨b, rfl⟩ := own_form HL.out.r0 (by omega)
      have hth := own_there HL.out.r0 (k * 2) 2 (by omega)
      obtain ⟨v0, t0⟩ := Option.isSome_iff_exists.1 (hth 0 (by omega)).1
      obtain ⟨v1, t1⟩ := Option.isSome_iff_exists.1 (hth 1 (by omega)).1
      have t2 := (hth 0 (by omega)).2
      have t3 := (hth 1 (by omega)).2
      have hki : (k : Int) < nd.pairs.length := by omega
      simp only [Nat.add_zero] at t0 t2
      clear hth
      go_wp2
      go_roundw
      case rel => exact ⟨k + 1, by omega, by go_num, _, _, _, (HL.out.set0 (k * 2) _).set0 (k * 2 + 1) _⟩
      case measure => simp [intOf]; omega
    · have hlt' : ¬ ((k : Int) < nd.pairs.length) := by omega
      go_wp2
      clear q0 q1 q2 q3 q4 q5
      obtain ⟨wa, rfl⟩ : ∃ wa : World, wa = wr := ⟨_, rfl⟩
      go_loopw [4] (fun i wr => ∃ k : Nat, k ≤ nd.seps.length ∧ i = .int .i64 k ∧ (∃ xs0 xs1 xs2, Hid (LS (fun k => lo ≤ k ∧ k < hi) w wr lo w.heap.size (.slice A0 nd.pairs.length c0) (.slice A1 nd.seps.length c1) (.slice A2 nd.kids.length c2) nd.pairs.length nd.seps.length nd.kids.length xs0 xs1 xs2))) (fun i _ => nd.seps.length - (intOf i).toNat)
      case atStart => exact ⟨0, Nat.zero_le _, rfl, _, _, _, HL⟩
      case round =>
        clear HL
        obtain ⟨k, hkk, rfl, xs0, xs1, xs2, HL⟩ := hrel
        obtain ⟨⟨q0, q1, q2⟩, q3, q4, q5⟩ := box_facts HL.out.box
        by_cases hlt : k < nd.seps.length
        · obtain ⟨b, rfl⟩ := own_form HL.out.r1 (by omega)
          have hth := own_there HL.out.r1 k 1 (by omega)
          obtain ⟨v0, t0⟩ := Option.isSome_iff_exists.1 (hth 0 (by omega)).1
          have t2 := (hth 0 (by omega)).2
          have hki : (k : Int) < nd.seps.length := by omega
          simp only [Nat.add_zero] at t0 t2
          clear hth
          go_wp2
          go_roundw
          case rel => exact ⟨k + 1, by omega, by go_num, _, _, _, HL.out.set1 k _⟩
          case measure => simp [intOf]; omega
        · have hlt' : ¬ ((k : Int) < nd.seps.length) := by omega
          go_wp2
          clear q0 q1 q2 q3 q4 q5
          obtain ⟨wb, rfl⟩ : ∃ wb : World, wb = wr := ⟨_, rfl⟩
          go_loopw [5] (fun i wr => ∃ k : Nat, k ≤ nd.kids.length ∧ i = .int .i64 k ∧ (∃ xs0 xs1 xs2, Hid (LS (fun k => lo ≤ k ∧ k < hi) w wr lo w.heap.size (.slice A0 nd.pairs.length c0) (.slice A1 nd.seps.length c1) (.slice A2 nd.kids.length c2) nd.pairs.length nd.seps.length nd.kids.length xs0 xs1 xs2))) (fun i _ => nd.kids.length - (intOf i).toNat)
          case atStart => exact ⟨0, Nat.zero_le _, rfl, _, _, _, HL⟩
          case round =>
            clear HL
            obtain ⟨k, hkk, rfl, xs0, xs1, xs2, HL⟩ := hrel
            obtain ⟨⟨q0, q1, q2⟩, q3, q4, q5⟩ := box_facts HL.out.box
            by_cases hlt : k < nd.kids.length
            · obtain ⟨b, rfl⟩ := own_form HL.out.r2 (by omega)
              have hth : Hid (wr.there b (k * 33) overK.cells.toArray.size) := Lib.hid (by rw [overK_size]; exact own_there HL.out.r2 (k * 33) 33 (by omega))
              have hki : (k : Int) < nd.kids.length := by omega
              obtain ⟨ys, HL2⟩ := LS.set2s overK.cells (k * 33) _ _ HL.out
              have HL3 := Lib.hid HL2
              clear HL2
              go_wp2_with (first
                | (refine spoil_store b (k * 33) hth rfl rfl rfl rfl ?_; clear hth))
              go_roundw
              case rel => exact ⟨k + 1, by omega, by go_num, _, _, _, HL3⟩
              case measure => simp [intOf]; omega
            · have hlt' : ¬ ((k : Int) < nd.kids.length) := by omega
              go_wp2
              clear q0 q1 q2 q3 q4 q5
              obtain ⟨wc, rfl⟩ : ∃ wc : World, wc = wr := ⟨_, rfl⟩
              go_loopw [6] (fun i wr => ∃ k : Nat, k ≤ 6 ∧ i = .int .i64 k ∧ (∃ B0 d0 B1 d1 B2 d2 xs0 xs1 xs2, Hid (LS (fun k => lo ≤ k ∧ k < hi) w wr lo w.heap.size (.slice B0 (nd.pairs.length + k) d0) (.slice B1 (nd.seps.length + k) d1) (.slice B2 (nd.kids.length + k) d2) (nd.pairs.length + k) (nd.seps.length + k) (nd.kids.length + k) xs0 xs1 xs2))) (fun i _ => 6 - (intOf i).toNat)
              case atStart => exact ⟨0, by omega, rfl, _, _, _, _, _, _, _, _, _, HL⟩
              case round =>
                clear HL
                obtain ⟨k, hkk, rfl, B0, d0, B1, d1, B2, d2, xs0, xs1, xs2, HL⟩ := hrel
                obtain ⟨⟨q0, q1, q2⟩, q3, q4, q5⟩ := box_facts HL.out.box
                by_cases hlt : k < 6
                · have HA0 := Lib.hid (HL.out.alloc (.cells #[.string ⟨#[109, 111, 114, 101]⟩, .string ⟨#[]⟩] 31))
                  go_wp2_with (first
                    | (at_builtin; refine wpList_append_rd rfl (.tmp 47) (.tmp 49) 25 rfl lo 31 Try.underlying25 hi0 hz0 hz1 hz2 rfl (by decide) rfl HA0.out.r0 rfl (one_pair' _ moreP _ (by simp)) (pc1 [moreP]) (HR0.out k hlt) (by decide) HA0.out.hb ?_; intro v1 w2 hown hg hx; clear q0 q1 q2 q3 q4 q5; obtain ⟨E0, f0, rfl, _, _⟩ := own_rd hown; have HA1 := Lib.hid ((HA0.out.app0 hown hg hx.1).alloc (.cells #[.string ⟨#[109, 111, 114, 101]⟩] 9)); obtain ⟨⟨q0, q1, q2⟩, q3, q4, q5⟩ := box_facts (HA0.out.mid0 hg); clear hown hg hx HA0)
                    | (at_builtin; refine wpList_append_rd rfl (.tmp 53) (.tmp 54) 26 rfl lo 9 Try.underlying26 hj hy0 hy1 hy2 rfl (by decide) rfl HA1.out.r1 rfl (one_text _ moreS _ (by simp)) (sc1 [moreS]) (HR1.out k hlt) (by decide) HA1.out.hb ?_; intro v2 w3 hown hg hx; clear q0 q1 q2 q3 q4 q5; obtain ⟨E1, f1, rfl, _, _⟩ := own_rd hown; have HA2 := Lib.hid ((HA1.out.app1 hown hg hx.1).alloc (.cells moreK.cells.toArray 85)); obtain ⟨⟨q0, q1, q2⟩, q3, q4, q5⟩ := box_facts (HA1.out.mid1 hg); clear hown hg hx HA1)
                    | (at_builtin; refine wpList_append_rd rfl (.tmp 58) (.tmp 60) 27 rfl lo 85 Try.underlying27 hik HX0.out hx1 hx2 (by kernel_rfl) (by decide) rfl HA2.out.r2 rfl (one_kid _ moreK rfl _ (by simp)) (kc1 [moreK]) (HR2.out k hlt) (by decide) HA2.out.hb ?_; intro v3 w4 hown hg hx; clear q0 q1 q2 q3 q4 q5; obtain ⟨E2, f2, rfl, _, _⟩ := own_rd hown; have HA3 := Lib.hid (HA2.out.app2 hown hg hx.1); obtain ⟨⟨q0, q1, q2⟩, q3, q4, q5⟩ := box_facts (HA2.out.mid2 hg); clear hown hg hx HA2))
                  go_roundw
                  case rel => exact ⟨k + 1, by omega, by go_num, E0, f0, E1, f1, E2, f2, _, _, _, HA3⟩
                  case measure => simp [intOf]; omega
                · have hlt' : ¬ ((k : Int) < 6) := by omega
                  obtain rfl : k = 6 := by omega
                  go_wp2
                  go_ret
                  exact ⟨⟨_, rfl⟩, HL.out.kp⟩

end Go.Proofs.Ytajkoeodabmgeaa
end

section
namespace Go.Proofs.Ytajkoeodabmgeaa
open Go.RowKit
set_option maxHeartbeats 800000
set_option maxRecDepth 100000

abbrev fW (w : World) (a b c d e f g h i : Value) : World := ((w.alloc (.cells #[a, b, c] 29)).alloc (.cells #[d, e, f] 29)).alloc (.cells #[g, h, i] 29)
theorem fW_base {w : World} {a b c d e f g h i : Value} (S : Nat → Prop) : Kept S w (fW w a b c d e f g h i) := (((Kept.refl S w).alloc _).alloc _).alloc _
theorem fW_boxes {w w1 : World} {a b c d e f g h i : Value} {S : Nat → Prop} (hk : Kept S (fW w a b c d e f g h i) w1) (hS : ∀ k, w.heap.size ≤ k → ¬ S k) :
    (w1.cell? ⟨w.heap.size, 0, none⟩ = some a ∧ w1.cell? ⟨w.heap.size, 1, none⟩ = some b ∧ w1.cell? ⟨w.heap.size, 2, none⟩ = some c) ∧
    (w1.cell? ⟨w.heap.size + 1, 0, none⟩ = some d ∧ w1.cell? ⟨w.heap.size + 1, 1, none⟩ = some e ∧ w1.cell? ⟨w.heap.size + 1, 2, none⟩ = some f) ∧
    (w1.cell? ⟨w.heap.size + 1 + 1, 0, none⟩ = some g ∧ w1.cell? ⟨w.heap.size + 1 + 1, 1, none⟩ = some h ∧ w1.cell? ⟨w.heap.size + 1 + 1, 2, none⟩ = some i) := by
  have h0 : w1.heap[w.heap.size]? = some (.cells #[a, b, c] 29 (0, 0)) := (hk.block _ (by simp [fW] <;> omega) (hS _ (Nat.le_refl _))).trans (alloc3_0 w _ _ _)
  have h1 : w1.heap[w.heap.size + 1]? = some (.cells #[d, e, f] 29 (0, 0)) := (hk.block _ (by simp [fW] <;> omega) (hS _ (by omega))).trans (alloc3_1 w _ _ _)
  have h2 : w1.heap[w.heap.size + 1 + 1]? = some (.cells #[g, h, i] 29 (0, 0)) := (hk.block _ (by simp [fW]) (hS _ (by omega))).trans (alloc3_at w _ _ _)
  exact ⟨⟨cell_of_row _ _ 0 _ _ _ h0, cell_of_row _ _ 1 _ _ _ h0, cell_of_row _ _ 2 _ _ _ h0⟩, ⟨cell_of_row _ _ 0 _ _ _ h1, cell_of_row _ _ 1 _ _ _ h1, cell_of_row _ _ 2 _ _ _ h1⟩, ⟨cell_of_row _ _ 0 _ _ _ h2, cell_of_row _ _ 1 _ _ _ h2, cell_of_row _ _ 2 _ _ _ h2⟩⟩

theorem fresh_c (A0 A1 A2 B0 B1 B2 C0 C1 C2 : Option Addr) (a0 a1 a2 b0 b1 b2 c0 c1 c2 : Nat) (nd : NodeD) (w : World) (lo hi : Nat) (hA : OwN w lo hi A0 a0 A1 a1 A2 a2 nd) (hR : Room 6 nd) (hlo : lo ≤ hi) (hhi : hi ≤ w.heap.size)
    (hB : ∀ W, Kept (fun k => lo ≤ k ∧ k < hi) w W → RdN W B0 b0 B1 b1 B2 b2 nd) (hC : ∀ W, Kept (fun k => lo ≤ k ∧ k < hi) w W → RdN W C0 c0 C1 c1 C2 c2 nd) :
    Calls Try.prog 26 #[vN A0 a0 A1 a1 A2 a2 nd, vN B0 b0 B1 b1 B2 b2 nd, vN C0 c0 C1 c1 C2 c2 nd] w fun e w' => e = .returned (.bool true) ∧ Kept (fun k => lo ≤ k ∧ k < hi) w w' := by
  have hS : ∀ k, w.heap.size ≤ k → ¬ (lo ≤ k ∧ k < hi) := fun k hk h => by omega
  have HS := Lib.hid hS
  have HA := Lib.hid hA
  have hA0 : RdN (fW w (.slice A0 nd.pairs.length a0) (.slice A1 nd.seps.length a1) (.slice A2 nd.kids.length a2) (.slice B0 nd.pairs.length b0) (.slice B1 nd.seps.length b1) (.slice B2 nd.kids.length b2) (.slice C0 nd.pairs.length c0) (.slice C1 nd.seps.length c1) (.slice C2 nd.kids.length c2)) A0 a0 A1 a1 A2 a2 nd :=
    OwN.rd (hA.kept (fW_base (fun _ => False)) (fun _ _ _ h => h))
  have HA0 := Lib.hid hA0
  have HC0 := Lib.hid (hC _ (fW_base (w := w) (a := .slice A0 nd.pairs.length a0) (b := .slice A1 nd.seps.length a1) (c := .slice A2 nd.kids.length a2) (d := .slice B0 nd.pairs.length b0) (e := .slice B1 nd.seps.length b1) (f := .slice B2 nd.kids.length b2) (g := .slice C0 nd.pairs.length c0) (h := .slice C1 nd.seps.length c1) (i := .slice C2 nd.kids.length c2) (fun k => lo ≤ k ∧ k < hi)))
  have HB := Lib.hid hB
  have HC := Lib.hid hC
  have HR := Lib.hid hR
  clear hS hA hB hC hR hA0
  go_enter Try.func26, Try.ntmps26
  go_wp2_with (first
    | (go_at_call 50; refine (same_c A0 A1 A2 C0 C1 C2 a0 a1 a2 c0 c1 c2 nd _ HA0.out HC0.out).mono ?_; clear HA0 HC0; rintro e w1 ⟨rfl, hb1⟩; have hW1 := Lib.hid (((fW_base (fun _ => False)).below (Nat.le_refl _) (fun _ _ h => h)).trans (hb1.mono (fW_base (w := w) (a := .slice A0 nd.pairs.length a0) (b := .slice A1 nd.seps.length a1) (c := .slice A2 nd.kids.length a2) (d := .slice B0 nd.pairs.length b0) (e := .slice B1 nd.seps.length b1) (f := .slice B2 nd.kids.length b2) (g := .slice C0 nd.pairs.length c0) (h := .slice C1 nd.seps.length c1) (i := .slice C2 nd.kids.length c2) (fun _ => False)).size)); have hK1 := Lib.hid (Kept.of_below (S := fun k => lo ≤ k ∧ k < hi) hb1); clear hb1; obtain ⟨⟨q0, q1, q2⟩, ⟨q3, q4, q5⟩, q6, q7, q8⟩ := fW_boxes hK1.out HS.out; have HA1 := Lib.hid ((fW_base (fun k => lo ≤ k ∧ k < hi)).trans hK1.out); have HB1 := Lib.hid (HB.out _ HA1.out); have HC1 := Lib.hid (HC.out _ HA1.out))
    | (go_at_call 50; refine (same_c B0 B1 B2 C0 C1 C2 b0 b1 b2 c0 c1 c2 nd _ HB1.out HC1.out).mono ?_; clear HB1 HC1; rintro e w2 ⟨rfl, hb2⟩; have hK2 := Lib.hid (hK1.out.step hb2); clear q0 q1 q2 q3 q4 q5 q6 q7 q8; obtain ⟨⟨q0, q1, q2⟩, ⟨q3, q4, q5⟩, q6, q7, q8⟩ := fW_boxes hK2.out HS.out; have hW2 := Lib.hid (hW1.out.trans (hb2.mono hW1.out.size)); clear hb2)
    | (go_at_call 25; refine (spoil_c A0 A1 A2 a0 a1 a2 nd _ lo hi (HA.out.below hW2.out) HR.out (Nat.le_trans hlo (Nat.le_trans hhi hW2.out.size))).mono ?_; rintro e w3 ⟨⟨r, rfl⟩, hk3⟩; have hK3 := Lib.hid (hK2.out.trans hk3); clear hk3 q0 q1 q2 q3 q4 q5 q6 q7 q8; obtain ⟨⟨q0, q1, q2⟩, ⟨q3, q4, q5⟩, q6, q7, q8⟩ := fW_boxes hK3.out HS.out; have HX := Lib.hid ((fW_base (fun k => lo ≤ k ∧ k < hi)).trans hK3.out); have HB3 := Lib.hid (HB.out _ HX.out); have HC3 := Lib.hid (HC.out _ HX.out))
    | (go_at_call 50; refine (same_c B0 B1 B2 C0 C1 C2 b0 b1 b2 c0 c1 c2 nd _ HB3.out HC3.out).mono ?_; rintro e w4 ⟨rfl, hb4⟩))
  go_ret
  exact ⟨rfl, HX.out.step hb4⟩

end Go.Proofs.Ytajkoeodabmgeaa
end

section
namespace Go.Proofs.Ytajkoeodabmgeaa
open Go.RowKit
set_option maxHeartbeats 2000000
set_option maxRecDepth 100000
attribute [local go_sem] grow_cell grow_frozen grow_size

theorem one_row {w w1 : World} {cs : Array Value} {t : TypeId} (h : Below (w.alloc (.cells cs t)).heap.size (w.alloc (.cells cs t)) w1) : w1.heap[w.heap.size]? = some (.cells cs t (0, 0)) :=
  (h.block _ (by simp)).trans (heap_alloc_new w _)

theorem finds_law (A0 A1 A2 : Option Addr) (c0 c1 c2 : Nat) (nd : NodeD) (key : ByteArray) (w : World) (hN : RdN w A0 c0 A1 c1 A2 c2 nd) (hR : Room 4 nd) :
    Calls Try.prog 11 #[vN A0 c0 A1 c1 A2 c2 nd, .string key] w fun e w' => e = .returned (.bool true) ∧ Below w.heap.size w w' := by
  have HN := Lib.hid hN
  have HR := Lib.hid hR
  clear hN hR
  go_enter Try.func11, Try.ntmps11
  go_wp2_with (first
    | (go_at_call 21; refine (lent_c A0 A1 A2 c0 c1 c2 nd _ (HN.out.below ((Below.refl _ _).alloc (Nat.le_refl _) _)) HR.out).mono ?_; rintro e w1 ⟨B0, d0, B1, d1, B2, d2, rfl, hown, hb1⟩; have HX := Lib.hid (OwN.rd hown); have HW := Lib.hid (below_a hb1); have HP := Lib.hid (one_row hb1); have hlt1 : w.heap.size < w1.heap.size := (by have := hb1.size; simp at this; omega); clear hown hb1)
    | (go_at_call 42; refine (find_c B0 B1 B2 d0 d1 d2 nd key _ (RdN.below HX.out.short ((Below.refl _ _).alloc (Nat.le_refl _) _))).mono ?_; rintro e w2 ⟨rfl, hb2⟩; have HX2 := Lib.hid (HX.out.below (below_a hb2)); have HB2 := Lib.hid (one_row hb2); have HP2 := Lib.hid (((below_a hb2).block _ hlt1).trans HP.out); have HW2 := Lib.hid (HW.out.trans ((below_a hb2).mono HW.out.size)); obtain ⟨⟨q0, q1, q2⟩, _⟩ := box_facts HP2.out; have hlt2 : w1.heap.size < w2.heap.size := (by have := hb2.size; simp at this; omega); clear hb2 HX)
    | (go_at_call 43; refine (refFind_c A0 A1 A2 c0 c1 c2 nd key _ (HN.out.below HW2.out)).mono ?_; rintro e w3 ⟨rfl, hb3⟩; clear q0 q1 q2; have HX3 := Lib.hid (HX2.out.below hb3); have HW3 := Lib.hid (HW2.out.trans (hb3.mono HW2.out.size)); have HN3 := Lib.hid (HN.out.below HW3.out); obtain ⟨⟨q0, q1, q2⟩, _⟩ := box_facts ((hb3.block _ (Nat.lt_trans hlt1 hlt2)).trans HP2.out); obtain ⟨⟨q3, q4, q5⟩, _⟩ := box_facts ((hb3.block _ hlt2).trans HB2.out); have y0 : w.heap.size < w3.heap.size := Nat.lt_of_lt_of_le (Nat.lt_trans hlt1 hlt2) hb3.size; have y1 : w1.heap.size < w3.heap.size := Nat.lt_of_lt_of_le hlt2 hb3.size; clear hb3))
  clear HX2 HW2 HP2 HB2 HP HW hlt1 hlt2
  refine wp_region_grow (by kernel_rfl) (by kernel_rfl) ?_
  repeat (any_goals (first
    | go_big_quiet_step ((first | (go_at_call 44; exact quiet_below (way_c B0 B1 B2 d0 d1 d2 nd key _ (HX3.out.short.below (below_grow _ _)))) | (go_at_call 45; exact quiet_below (refWay_c A0 A1 A2 c0 c1 c2 nd key _ (HN3.out.below (below_grow _ _)))) | (go_at_call 24; exact quiet_below (kept_c A0 A1 A2 B0 B1 B2 c0 c1 c2 d0 d1 d2 nd _ (HX3.out.below (below_grow _ _)) (HN3.out.below (below_grow _ _)))) | (go_at_call 20; exact quiet_below (awake_c _))))
    | quiet_step ((first | (go_at_call 44; exact quiet_below (way_c B0 B1 B2 d0 d1 d2 nd key _ (HX3.out.short.below (below_grow _ _)))) | (go_at_call 45; exact quiet_below (refWay_c A0 A1 A2 c0 c1 c2 nd key _ (HN3.out.below (below_grow _ _)))) | (go_at_call 24; exact quiet_below (kept_c A0 A1 A2 B0 B1 B2 c0 c1 c2 d0 d1 d2 nd _ (HX3.out.below (below_grow _ _)) (HN3.out.below (below_grow _ _)))) | (go_at_call 20; exact quiet_below (awake_c _))))))
  refine wpQuiet_nil ?_
  intro w4 hb4
  go_wp2
  go_ret
  exact ⟨rfl, HW3.out.trans (hb4.mono HW3.out.size)⟩

end Go.Proofs.Ytajkoeodabmgeaa
end
