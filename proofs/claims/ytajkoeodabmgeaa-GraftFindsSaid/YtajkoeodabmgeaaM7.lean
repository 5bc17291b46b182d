import Derived.Test.YtajkoeodabmgeaaM6
namespace Go.Proofs.Ytajkoeodabmgeaa
open Go.RowKit
set_option maxHeartbeats 800000
set_option maxRecDepth 100000

abbrev fW (w : World) (a b c d e f g h i : Value) : World := ((w.alloc (.cells #[a, b, c] 29)).alloc (.cells #[d, e, f] 29)).alloc (.cells #[g, h, i] 29)
theorem fW_base {w : World} {a b c d e f g h i : Value} (S : Nat → Prop) : Kept S w (fW w a b c d e f g h i) := (((Kept.refl S w).alloc _).alloc _).alloc _
theorem fW_boxes {w w1 : World} {a b c d e f g h i : Value} {S : Nat → Prop} (hk : Kept S (fW w a b c d e f g h i) w1) (hS : ∀ k, w.heap.size ≤ k → ¬ S k) :
    (w1.cell? ⟨w.heap.size, 0, none⟩ = some a ∧ w1.cell? ⟨w.heap.size, 1, none⟩ = some b ∧ w1.cell? ⟨w.heap.size, 2, none⟩ = some c) ∧
    (w1.cell? ⟨w.heap.size + 1, 0, none⟩ = some d ∧ w1.cell? ⟨w.heap.size + 1, 1, none⟩ = some e ∧ w1.cell? ⟨w.heap.size + 1, 2, none⟩ = some f) ∧
    (w1.cell? ⟨w.heap.size + 1 + 1, 0, none⟩ = some g ∧ w1.cell? ⟨w.heap.size + 1 + 1, 1, none⟩ = some h ∧ w1.cell? ⟨w.heap.size + 1 + 1, 2, none⟩ = some i) := by
  have h0 : w1.heap[w.heap.size]? = some (.cells #[a, b, c] 29 (0, 0)) := (hk.block _ (by simp [fW] <;> omega) (hS _ (Nat.le_refl _))).trans (alloc3_0 w _ _ _)
  have h1 : w1.heap[w.heap.size + 1]? = some (.cells #[d, e, f] 29 (0, 0)) := (hk.block _ (by simp [fW] <;> omega) (hS _ (by omega))).trans (alloc3_1 w _ _ _)
  have h2 : w1.heap[w.heap.size + 1 + 1]? = some (.cells #[g, h, i] 29 (0, 0)) := (hk.block _ (by simp [fW]) (hS _ (by omega))).trans (alloc3_at w _ _ _)
  exact ⟨⟨cell_of_row _ _ 0 _ _ _ h0, cell_of_row _ _ 1 _ _ _ h0, cell_of_row _ _ 2 _ _ _ h0⟩, ⟨cell_of_row _ _ 0 _ _ _ h1, cell_of_row _ _ 1 _ _ _ h1, cell_of_row _ _ 2 _ _ _ h1⟩, ⟨cell_of_row _ _ 0 _ _ _ h2, cell_of_row _ _ 1 _ _ _ h2, cell_of_row _ _ 2 _ _ _ h2⟩⟩

theorem fresh_c (A0 A1 A2 B0 B1 B2 C0 C1 C2 : Option Addr) (a0 a1 a2 b0 b1 b2 c0 c1 c2 : Nat) (nd : NodeD) (w : World) (lo hi : Nat) (hA : OwN w lo hi A0 a0 A1 a1 A2 a2 nd) (hR : Room 6 nd) (hlo : lo ≤ hi) (hhi : hi ≤ w.heap.size)
    (hB : ∀ W, Kept (fun k => lo ≤ k ∧ k < hi) w W → RdN W B0 b0 B1 b1 B2 b2 nd) (hC : ∀ W, Kept (fun k => lo ≤ k ∧ k < hi) w W → RdN W C0 c0 C1 c1 C2 c2 nd) :
    Calls Try.prog 26 #[vN A0 a0 A1 a1 A2 a2 nd, vN B0 b0 B1 b1 B2 b2 nd, vN C0 c0 C1 c1 C2 c2 nd] w fun e w' => e = .returned (.bool true) ∧ Kept (fun k => lo ≤ k ∧ k < hi) w w' := by
  have hS : ∀ k, w.heap.size ≤ k → ¬ (lo ≤ k ∧ k < hi) := fun k hk h => by omega
  have HS := Lib.hid hS
  have HA := Lib.hid hA
  have hA0 : RdN (fW w (.slice A0 nd.pairs.length a0) (.slice A1 nd.seps.length a1) (.slice A2 nd.kids.length a2) (.slice B0 nd.pairs.length b0) (.slice B1 nd.seps.length b1) (.slice B2 nd.kids.length b2) (.slice C0 nd.pairs.length c0) (.slice C1 nd.seps.length c1) (.slice C2 nd.kids.length c2)) A0 a0 A1 a1 A2 a2 nd :=
    OwN.rd (hA.kept (fW_base (fun _ => False)) (fun _ _ _ h => h))
  have HA0 := Lib.hid hA0
  have HC0 := Lib.hid (hC _ (fW_base (w := w) (a := .slice A0 nd.pairs.length a0) (b := .slice A1 nd.seps.length a1) (c := .slice A2 nd.kids.length a2) (d := .slice B0 nd.pairs.length b0) (e := .slice B1 nd.seps.length b1) (f := .slice B2 nd.kids.length b2) (g := .slice C0 nd.pairs.length c0) (h := .slice C1 nd.seps.length c1) (i := .slice C2 nd.kids.length c2) (fun k => lo ≤ k ∧ k < hi)))
  have HB := Lib.hid hB
  have HC := Lib.hid hC
  have HR := Lib.hid hR
  clear hS hA hB hC hR hA0
  go_enter Try.func26, Try.ntmps26
  go_wp2_with (first
    | (go_at_call 50; refine (same_c A0 A1 A2 C0 C1 C2 a0 a1 a2 c0 c1 c2 nd _ HA0.out HC0.out).mono ?_; clear HA0 HC0; rintro e w1 ⟨rfl, hb1⟩; have hW1 := Lib.hid (((fW_base (fun _ => False)).below (Nat.le_refl _) (fun _ _ h => h)).trans (hb1.mono (fW_base (w := w) (a := .slice A0 nd.pairs.length a0) (b := .slice A1 nd.seps.length a1) (c := .slice A2 nd.kids.length a2) (d := .slice B0 nd.pairs.length b0) (e := .slice B1 nd.seps.length b1) (f := .slice B2 nd.kids.length b2) (g := .slice C0 nd.pairs.length c0) (h := .slice C1 nd.seps.length c1) (i := .slice C2 nd.kids.length c2) (fun _ => False)).size)); have hK1 := Lib.hid (Kept.of_below (S := fun k => lo ≤ k ∧ k < hi) hb1); clear hb1; obtain ⟨⟨q0, q1, q2⟩, ⟨q3, q4, q5⟩, q6, q7, q8⟩ := fW_boxes hK1.out HS.out; have HA1 := Lib.hid ((fW_base (fun k => lo ≤ k ∧ k < hi)).trans hK1.out); have HB1 := Lib.hid (HB.out _ HA1.out); have HC1 := Lib.hid (HC.out _ HA1.out))
    | (go_at_call 50; refine (same_c B0 B1 B2 C0 C1 C2 b0 b1 b2 c0 c1 c2 nd _ HB1.out HC1.out).mono ?_; clear HB1 HC1; rintro e w2 ⟨rfl, hb2⟩; have hK2 := Lib.hid (hK1.out.step hb2); clear q0 q1 q2 q3 q4 q5 q6 q7 q8; obtain ⟨⟨q0, q1, q2⟩, ⟨q3, q4, q5⟩, q6, q7, q8⟩ := fW_boxes hK2.out HS.out; have hW2 := Lib.hid (hW1.out.trans (hb2.mono hW1.out.size)); clear hb2)
    | (go_at_call 25; refine (spoil_c A0 A1 A2 a0 a1 a2 nd _ lo hi (HA.out.below hW2.out) HR.out (Nat.le_trans hlo (Nat.le_trans hhi hW2.out.size))).mono ?_; rintro e w3 ⟨⟨r, rfl⟩, hk3⟩; have hK3 := Lib.hid (hK2.out.trans hk3); clear hk3 q0 q1 q2 q3 q4 q5 q6 q7 q8; obtain ⟨⟨q0, q1, q2⟩, ⟨q3, q4, q5⟩, q6, q7, q8⟩ := fW_boxes hK3.out HS.out; have HX := Lib.hid ((fW_base (fun k => lo ≤ k ∧ k < hi)).trans hK3.out); have HB3 := Lib.hid (HB.out _ HX.out); have HC3 := Lib.hid (HC.out _ HX.out))
    | (go_at_call 50; refine (same_c B0 B1 B2 C0 C1 C2 b0 b1 b2 c0 c1 c2 nd _ HB3.out HC3.out).mono ?_; rintro e w4 ⟨rfl, hb4⟩))
  go_ret
  exact ⟨rfl, HX.out.step hb4⟩

end Go.Proofs.Ytajkoeodabmgeaa
