import Derived.Test.YtajkoeodabmgeaaZ6
import Derived.Test.YtajkoeodabmgeaaW8
import Derived.Test.YtajkoeodabmgeaaIR
namespace Go.Proofs.Ytajkoeodabmgeaa
open Go.RowKit Go.Shelf
set_option maxHeartbeats 2000000
set_option maxRecDepth 100000
attribute [local go_sem] Oper.semAt_some

abbrev qtW (w : World) (pg wd mst : Int) (c d e : Value) : World :=
  (((w.alloc (.cells #[.int .i64 pg, .int .i64 wd] 24)).alloc (.cells #[c, d, e] 29)).alloc (.cells #[.int .i64 mst] 3)).alloc (.cells #[.bool false] 4)
section
variable {w w1 w2 : World} {pg wd mst : Int} {c d e : Value}
theorem qt_size (h : Below (w.heap.size + 1 + 1 + 1 + 1) (qtW w pg wd mst c d e) w1) : w.heap.size + 1 + 1 + 1 + 1 ≤ w1.heap.size := by
  have := h.size; simpa [qtW] using this
theorem qt_base : Below w.heap.size w (qtW w pg wd mst c d e) :=
  (((((Below.refl _ _).alloc (Nat.le_refl _) _).alloc (by simp) _).alloc (by simp <;> omega) _).alloc (by simp <;> omega) _)
theorem qt_below (h : Below (w.heap.size + 1 + 1 + 1 + 1) (qtW w pg wd mst c d e) w1) : Below w.heap.size w w1 := qt_base.trans (h.mono (by omega))
theorem qt_next (h : Below (w.heap.size + 1 + 1 + 1 + 1) (qtW w pg wd mst c d e) w1) (hb : Below w1.heap.size w1 w2) : Below (w.heap.size + 1 + 1 + 1 + 1) (qtW w pg wd mst c d e) w2 := h.trans (hb.mono (qt_size h))
theorem qt_boxes (h : Below (w.heap.size + 1 + 1 + 1 + 1) (qtW w pg wd mst c d e) w1) :
    ((w1.cell? ⟨w.heap.size, 0, none⟩ = some (.int .i64 pg) ∧ w1.cell? ⟨w.heap.size, 1, none⟩ = some (.int .i64 wd)) ∧
    (w1.cell? ⟨w.heap.size + 1, 0, none⟩ = some c ∧ w1.cell? ⟨w.heap.size + 1, 1, none⟩ = some d ∧ w1.cell? ⟨w.heap.size + 1, 2, none⟩ = some e)) ∧
    w1.cell? ⟨w.heap.size + 1 + 1, 0, none⟩ = some (.int .i64 mst) ∧ Boxed w1 (w.heap.size + 1 + 1 + 1) 4 (.bool false) := by
  have h0 : w1.heap[w.heap.size]? = some (.cells #[.int .i64 pg, .int .i64 wd] 24 (0, 0)) := (h.block _ (by omega)).trans ((Below.heap_alloc _ _ _ (by simp <;> omega)).trans (alloc3_0 w _ _ _))
  have h1 : w1.heap[w.heap.size + 1]? = some (.cells #[c, d, e] 29 (0, 0)) := (h.block _ (by omega)).trans ((Below.heap_alloc _ _ _ (by simp <;> omega)).trans (alloc3_1 w _ _ _))
  have h2 : w1.heap[w.heap.size + 1 + 1]? = some (.cells #[.int .i64 mst] 3 (0, 0)) := (h.block _ (by omega)).trans ((Below.heap_alloc _ _ _ (by simp)).trans (alloc3_at w _ _ _))
  have h3 : w1.heap[w.heap.size + 1 + 1 + 1]? = some (.cells #[.bool false] 4 (0, 0)) := (h.block _ (by omega)).trans (alloc4_at w _ _ _ _)
  exact ⟨⟨⟨cell_of_row _ _ 0 _ _ _ h0, cell_of_row _ _ 1 _ _ _ h0⟩, ⟨cell_of_row _ _ 0 _ _ _ h1, cell_of_row _ _ 1 _ _ _ h1, cell_of_row _ _ 2 _ _ _ h1⟩⟩, cell_of_row _ _ 0 _ _ _ h2, h3⟩
end

/-- The round that the loop stands at. -/
def roundOf (a : Act) (w : World) : Nat := match a.tmps[10]? with
  | some (Value.pointer (some p)) => (match w.cell? p with | some (Value.int _ n) => n.toNat | _ => 0)
  | _ => 0
def CutInv (H X V P3 : Nat) (w4 : World) (pg wd mst : Int) (A0 A1 A2 : Option Addr) (c0 c1 c2 : Nat) (nd : NodeD) (a : Act) (W : World) : Prop :=
  ∃ (r Rb : Nat) (Dl : List Nat), r ≤ 2 ∧ roundOf a W = r ∧ Boxed W Rb 3 (.int .i64 r) ∧ w4.heap.size ≤ Rb ∧ Below w4.heap.size w4 W ∧ Dl.Nodup ∧
    (∀ D ∈ Dl, w4.heap.size ≤ D ∧ W.heap[D]? = some (.deferred (some []))) ∧ ∃ s11 s12 s13 s14 s15 s16 s17 s18 s19 s20 s21 s22 s23 s24 s25 s26 s27 s28 s29 s30 s31 s32 s33 s34 s35 s36 s37 s38 s39 s40 s41 s42 s43 s44 s45 s46 s47 s48 s49 s50 s51 s52 s53 s54 s55 s56 s57 s58 s59 s60 s61 s62 s63 s64 s65 s66 s67 s68 s69 s70 s71 s72 s73 s74 s75 s76 s77 s78 s79 s80 s81 : Value, a = { tmps := #[vF pg wd, vN A0 c0 A1 c1 A2 c2 nd, .int .i64 mst, .pointer (some ⟨H, 0, none⟩), .pointer (some ⟨H + 1, 0, none⟩), .pointer (some ⟨H + 1 + 1, 0, none⟩), .pointer (some ⟨H + 1 + 1 + 1, 0, none⟩), .pointer (some ⟨X, 0, none⟩), .pointer (some ⟨V, 0, none⟩), .func (.func 73) #[] #[.pointer (some ⟨P3, 0, none⟩), .pointer (some ⟨P3 + 1, 0, none⟩)], .pointer (some ⟨Rb, 0, none⟩), s11, s12, s13, s14, s15, s16, s17, s18, s19, s20, s21, s22, s23, s24, s25, s26, s27, s28, s29, s30, s31, s32, s33, s34, s35, s36, s37, s38, s39, s40, s41, s42, s43, s44, s45, s46, s47, s48, s49, s50, s51, s52, s53, s54, s55, s56, s57, s58, s59, s60, s61, s62, s63, s64, s65, s66, s67, s68, s69, s70, s71, s72, s73, s74, s75, s76, s77, s78, s79, s80, s81], defers := Dl.map fun D => { target := .collected D, args := #[] } }

theorem leaves_marks {F : Fence} {n : Nat} {P : Program} {fn : Func} {tmps : Array Value} {R : Ending → World → Prop} {B : Nat} : ∀ (Dl : List Nat) (W : World), Dl.Nodup → (∀ D ∈ Dl, B ≤ D ∧ W.heap[D]? = some (.deferred (some []))) →
    (∀ W', Below B W W' → LeavesIn F n P fn tmps R [] .returning W') → LeavesInM F n P fn tmps R (Dl.map fun D => { target := .collected D, args := #[] }) .returning W
  | [], W, _, _, h => h W (Below.refl _ _)
  | D :: Dl, W, hn, hD, h => by
    obtain ⟨hB, hd⟩ := hD D (List.mem_cons_self ..)
    rw [List.nodup_cons] at hn
    have hbl : Below B W (W.putObj D (.deferred none)) := below_putObj (Below.refl _ _) hB _
    refine ⟨by simp, .inl ⟨D, _, rfl, run_takeDeferred hd, leaves_marks Dl _ hn.2 (fun E hE => ⟨(hD E (List.mem_cons_of_mem _ hE)).1, ?_⟩) (fun W' hW' => h W' (hbl.trans hW'))⟩⟩
    exact putObj_row (hD E (List.mem_cons_of_mem _ hE)).2 (fun e => hn.1 (e ▸ hE))

theorem Boxed.kept_below {W W' : World} {B : Nat} {t : TypeId} {v : Value} (h : Boxed W B t v) (hb : Below W.heap.size W W') : Boxed W' B t v := (hb.block _ h.lt).trans h
theorem boxed_next {α : Type} {U : World} {B : Nat} {pre : List α} {x : α} (h : Boxed U B 3 (.int .i64 (pre.length : Nat))) : Boxed (U.setCell ⟨B, 0, none⟩ (.int .i64 ((pre.length : Int) + 1))).drew B 3 (.int .i64 ((pre ++ [x]).length : Nat)) := by
  have h1 := h.set (.int .i64 ((pre.length : Int) + 1))
  rw [List.length_append]
  exact h1
theorem prefix_snoc {α : Type} [DecidableEq α] {pre l : List α} {x : α} (h : pre <+: l) (hl : pre.length < l.length) : pre ++ [x] <+: l ↔ l[pre.length] = x := by
  obtain ⟨t, rfl⟩ := h
  cases t with
  | nil => simp at hl
  | cons y t =>
    constructor
    · intro h
      have h2 := (List.prefix_append_right_inj pre).1 h
      simp at h2
      simp [h2]
    · intro h
      simp at h
      subst h
      exact ⟨t, by simp⟩

theorem cuts_law (pg wd mst : Int) (A0 A1 A2 : Option Addr) (c0 c1 c2 : Nat) (nd : NodeD) (w : World) (hN : RdN w A0 c0 A1 c1 A2 c2 nd) (hR : Room 8 nd) :
    Calls Try.prog 6 #[vF pg wd, vN A0 c0 A1 c1 A2 c2 nd, .int .i64 mst] w fun e w' => e = .returned (.bool true) ∧ Below w.heap.size w w' := by
  have HN := Lib.hid hN
  have HR4 : Hid (Room 4 nd) := ⟨by have := hR.p; omega, by have := hR.s; omega, by have := hR.k; omega⟩
  clear hN hR
  cases hg : greatB nd with
  | true =>
    have HG := Lib.hid hg
    clear hg
    go_enter Try.func6, Try.ntmps6
    go_wp2_with (first
      | (go_at_call 29; refine (great_v A0 A1 A2 c0 c1 c2 nd _ HG.out _).mono ?_; rintro e w0 ⟨rfl, hb0⟩
         have HL0 : Hid (Below (w.heap.size + 1 + 1 + 1 + 1) (qtW w pg wd mst (.slice A0 nd.pairs.length c0) (.slice A1 nd.seps.length c1) (.slice A2 nd.kids.length c2)) w0) := Lib.hid (hb0.mono (by simp)))
      | (go_at_call 20; refine (awake_c _).mono ?_; rintro e w8 ⟨rfl, hb8⟩
         have HL8 := Lib.hid (qt_next HL0.out hb8)
         obtain ⟨_, _, hrb⟩ := qt_boxes HL8.out
         have r0 := hrb.cell
         have r1 := hrb.frozen))
    refine bodyPost_ret (v := .bool true) (by simp [results, Try.results6, go_sem, r0]) rfl ?_
    exact ⟨rfl, (qt_below HL8.out).setCell (p := ⟨w.heap.size + 1 + 1 + 1, 0, none⟩) (by simp; omega) _⟩
  | false =>
    have HG := Lib.hid hg
    clear hg
    have hfe : ∀ (fn : Fn) (b cap : Array Value) (W : World), (binOp .eql 47 (.func fn b cap) .nilFunc).run Try.prog W = .ok (.bool false) W := fun _ _ _ _ => by kernel_rfl
    refine (callsIn_wide (n := 9)).1 ?_
    refine callsIn_of_wp_marks Try.func6 rfl trivial ?_ rfl
    simp only [Try.ntmps6, List.size_toArray, List.length_cons, List.length_nil, Nat.reduceAdd, Nat.reduceSub, Array.replicate_succ, Array.replicate_zero, List.push_toArray, List.append_toArray, List.nil_append, List.cons_append]
    gi_wp2_with (first
      | (refine ⟨trivial, ?_⟩; gi_at_call 29; refine (callsIn_wide.2 (great_v A0 A1 A2 c0 c1 c2 nd _ HG.out _)).mono ?_; rintro e w0 ⟨rfl, hb0⟩
         have HL0 : Hid (Below (w.heap.size + 1 + 1 + 1 + 1) (qtW w pg wd mst (.slice A0 nd.pairs.length c0) (.slice A1 nd.seps.length c1) (.slice A2 nd.kids.length c2)) w0) := Lib.hid (hb0.mono (by simp))
         clear hb0
         obtain ⟨⟨⟨q0, q1⟩, ⟨q2, q3, q4⟩⟩, _⟩ := qt_boxes HL0.out
         have hz := qt_size HL0.out
         have z0 : w.heap.size < w0.heap.size := (by omega)
         have z1 : w.heap.size + 1 < w0.heap.size := (by omega)
         clear hz)
      | (refine ⟨trivial, ?_⟩; gi_at_call 21; refine (callsIn_wide.2 (lent_c A0 A1 A2 c0 c1 c2 nd _ (HN.out.below (qt_below HL0.out)) HR4.out)).mono ?_; rintro e w1 ⟨B0, d0, B1, d1, B2, d2, rfl, hown, hb1⟩
         have HX1 := Lib.hid hown
         have HL1 := Lib.hid (qt_next HL0.out hb1)
         have h01 := hb1.size
         clear hown hb1
         clear q0 q1 q2 q3 q4 z0 z1
         obtain ⟨⟨⟨q0, q1⟩, ⟨q2, q3, q4⟩⟩, _⟩ := qt_boxes HL1.out
         have hz := qt_size HL1.out
         have z0 : w.heap.size < w1.heap.size := (by omega)
         have z1 : w.heap.size + 1 < w1.heap.size := (by omega)
         clear hz)
      | (refine ⟨trivial, ?_⟩; gi_at_call 30; refine (callsIn_wide.2 (refCuts_c pg wd A0 A1 A2 c0 c1 c2 nd _ ((HN.out.below (qt_below HL1.out)).below ((Below.refl _ _).alloc (Nat.le_refl _) _)))).mono ?_; rintro e w2 ⟨⟨A, c, rfl, hown⟩, hb2⟩
         have hg1 := one_row hb2
         have hba := below_a hb2
         have HX2 := Lib.hid (HX1.out.below hba)
         have HL2 := Lib.hid (qt_next HL1.out hba)
         have HO2 := Lib.hid hown
         have y1l : w1.heap.size < w2.heap.size := (Array.getElem?_eq_some_iff.1 hg1).1
         have HG1 := Lib.hid hg1
         obtain ⟨⟨p0, p1, p2⟩, _⟩ := box_facts hg1
         clear hown hb2 hba hg1 HX1 HL1
         clear q0 q1 q2 q3 q4 z0 z1
         obtain ⟨⟨⟨q0, q1⟩, ⟨q2, q3, q4⟩⟩, _⟩ := qt_boxes HL2.out
         have hz := qt_size HL2.out
         have z0 : w.heap.size < w2.heap.size := (by omega)
         have z1 : w.heap.size + 1 < w2.heap.size := (by omega)
         clear hz)
      | (refine ⟨trivial, ?_⟩; gi_at_call 31; refine (callsIn_wide.2 (cuts_c pg wd B0 B1 B2 d0 d1 d2 nd _)).mono ?_; rintro e w3 ⟨rfl, hw3⟩
         have hb3 : Below w2.heap.size w2 w3 := (by rw [hw3]; exact (((Below.refl _ _).alloc (Nat.le_refl _) _).alloc (by simp) _).alloc (by simp <;> omega) _)
         have hg2 : w3.heap[w2.heap.size]? = some (.cells #[.slice A (places pg wd nd).length c] 44 (0, 0)) := (by rw [hw3]; exact alloc3_0 w2 _ _ _)
         have hg3 : w3.heap[w2.heap.size + 1]? = some (.cells #[.int .i64 pg, .int .i64 wd] 24 (0, 0)) := (by rw [hw3]; exact alloc3_1 w2 _ _ _)
         have hg4 : w3.heap[w2.heap.size + 1 + 1]? = some (.cells #[.slice B0 nd.pairs.length d0, .slice B1 nd.seps.length d1, .slice B2 nd.kids.length d2] 29 (0, 0)) := (by rw [hw3]; exact alloc3_at w2 _ _ _)
         clear hw3
         have hg1 := (hb3.block _ y1l).trans HG1.out
         have HX3 := Lib.hid (HX2.out.below hb3)
         have HL3 := Lib.hid (qt_next HL2.out hb3)
         have HO3 := Lib.hid (own_below HO2.out hb3)
         have z3 : w2.heap.size + 1 + 1 < w3.heap.size := (Array.getElem?_eq_some_iff.1 hg4).1
         have z2 : w1.heap.size < w3.heap.size := (by omega)
         clear p0 p1 p2 HG1 HX2 HL2 HO2 hb3
         obtain ⟨⟨p0, p1, p2⟩, _⟩ := box_facts hg1
         have HG1 := Lib.hid hg1
         have HG2 := Lib.hid hg2
         have HG3 := Lib.hid hg3
         have HG4 := Lib.hid hg4
         clear hg1 hg2 hg3 hg4
         clear q0 q1 q2 q3 q4 z0 z1
         obtain ⟨⟨⟨q0, q1⟩, ⟨q2, q3, q4⟩⟩, _⟩ := qt_boxes HL3.out
         have hz := qt_size HL3.out
         have z0 : w.heap.size < w3.heap.size := (by omega)
         have z1 : w.heap.size + 1 < w3.heap.size := (by omega)
         clear hz)
      | (refine ⟨trivial, ?_⟩; gi_at_call 24; refine (callsIn_wide.2 (kept_c A0 A1 A2 B0 B1 B2 c0 c1 c2 d0 d1 d2 nd _ (HX3.out.rd) (HN.out.below (qt_below HL3.out)))).mono ?_; rintro e w4 ⟨rfl, hb4⟩
         have hg1 := (hb4.block _ z2).trans HG1.out
         have hg2 := (hb4.block _ (by omega)).trans HG2.out
         have hg3 := (hb4.block _ (by omega)).trans HG3.out
         have hg4 := (hb4.block _ z3).trans HG4.out
         have HX4 := Lib.hid (HX3.out.below hb4)
         have HL4 := Lib.hid (qt_next HL3.out hb4)
         have HO4 := Lib.hid (own_below HO3.out hb4)
         have z4 : w2.heap.size + 1 + 1 < w4.heap.size := (Array.getElem?_eq_some_iff.1 hg4).1
         clear p0 p1 p2 HG1 HG2 HG3 HG4 HX3 HL3 HO3 hb4 q0 q1 q2 q3 q4 z0 z1 z2 z3
         have HG2 := Lib.hid hg2
         have HG3 := Lib.hid hg3
         have HG4 := Lib.hid hg4
         clear hg1 hg2 hg3 hg4))
    refine wpIn_loop (CutInv w.heap.size w1.heap.size w2.heap.size (w2.heap.size + 1) w4 pg wd mst A0 A1 A2 c0 c1 c2 nd) (fun a W => 2 - roundOf a W) ?_ ?_
    · refine ⟨0, w4.heap.size, [], by omega, ?_, Boxed.new _ _ _, Nat.le_refl _, (Below.refl _ _).alloc (Nat.le_refl _) _, List.nodup_nil, (fun _ h => by cases h), _, _, _, _, _, _, _, _, _, _, _, _, _, _, _, _, _, _, _, _, _, _, _, _, _, _, _, _, _, _, _, _, _, _, _, _, _, _, _, _, _, _, _, _, _, _, _, _, _, _, _, _, _, _, _, _, _, _, _, _, _, _, _, _, _, _, _, _, _, _, _, rfl⟩
      simp [roundOf, go_sem]
    have hps : ((places pg wd nd).length : Int) ≤ 5000000000000 := by
      have h1 := HN.out.hp
      have h2 := HN.out.hk
      unfold places cutsN
      split
      · rw [List.length_map, List.length_range]; split <;> omega
      · simp
    rintro a W ⟨r, Rb, Dl, hr2, hro, hRb, hRl, hB, hnd, hD, s11, s12, s13, s14, s15, s16, s17, s18, s19, s20, s21, s22, s23, s24, s25, s26, s27, s28, s29, s30, s31, s32, s33, s34, s35, s36, s37, s38, s39, s40, s41, s42, s43, s44, s45, s46, s47, s48, s49, s50, s51, s52, s53, s54, s55, s56, s57, s58, s59, s60, s61, s62, s63, s64, s65, s66, s67, s68, s69, s70, s71, s72, s73, s74, s75, s76, s77, s78, s79, s80, s81, rfl⟩
    have c10 := hRb.cell
    have f10 := hRb.frozen
    have HB := Lib.hid hB
    have HD := Lib.hid hD
    have HND := Lib.hid hnd
    have HRO := Lib.hid hro
    have HRB := Lib.hid hRb
    clear hB hD hnd hro hRb
    by_cases hlt : r < 2
    · have hlt' : (r : Int) < 2 := by omega
      gi_wp2
      have hB5 := HB.out
      obtain ⟨w5, hw5⟩ : ∃ w5, w5 = W.alloc (.cells #[.int .i64 0] 3) := ⟨_, rfl⟩
      have hb5 : Below W.heap.size W w5 := by rw [hw5]; exact (Below.refl _ _).alloc (Nat.le_refl _) _
      have bA : Boxed w5 W.heap.size 3 (.int .i64 0) := by rw [hw5]; exact Boxed.new _ _ _
      have hs5 : w5.heap.size = W.heap.size + 1 := by rw [hw5]; simp
      rw [← hw5]
      clear hw5
      have HS5 := Lib.hid hs5
      have hsW := HB.out.size
      have hKB : ∀ U, Kb w5.heap.size (fun k => k = W.heap.size) w5 U → Below w4.heap.size w4 U := fun U h =>
        HB.out.trans ((hb5.trans ⟨h.os, h.tape, h.output, h.size, fun k hk => h.block k (by omega) (by omega)⟩).mono hsW)
      have hKN : ∀ U, Kb w5.heap.size (fun k => k = W.heap.size) w5 U → RdN U B0 d0 B1 d1 B2 d2 nd := fun U h => (HX4.out.short (by decide)).rd.below (hKB U h)
      have hKF : ∀ U, Kb w5.heap.size (fun k => k = W.heap.size) w5 U → U.cell? ⟨w2.heap.size + 1, 0, none⟩ = some (.int .i64 pg) ∧ U.cell? ⟨w2.heap.size + 1, 1, none⟩ = some (.int .i64 wd) := fun U h => by
        have := ((hKB U h).block _ (by omega)).trans HG3.out
        exact ⟨cell_of_row _ _ 0 _ _ _ this, cell_of_row _ _ 1 _ _ _ this⟩
      have hKC : ∀ U, Kb w5.heap.size (fun k => k = W.heap.size) w5 U → U.cell? ⟨w2.heap.size + 1 + 1, 0, none⟩ = some (.slice B0 nd.pairs.length d0) ∧ U.cell? ⟨w2.heap.size + 1 + 1, 1, none⟩ = some (.slice B1 nd.seps.length d1) ∧ U.cell? ⟨w2.heap.size + 1 + 1, 2, none⟩ = some (.slice B2 nd.kids.length d2) := fun U h => by
        have := ((hKB U h).block _ (by omega)).trans HG4.out
        exact ⟨cell_of_row _ _ 0 _ _ _ this, cell_of_row _ _ 1 _ _ _ this, cell_of_row _ _ 2 _ _ _ this⟩
      have hst := cuts_stops 8 (by omega) pg wd B0 B1 B2 d0 d1 d2 nd (w2.heap.size + 1) (w2.heap.size + 1 + 1) w5.heap.size w5 (Nat.le_refl _) (Kb w5.heap.size (fun k => k = W.heap.size)) Kb.trans Kb.of Kb.size hKN hKF hKC
      clear hKN hKF hKC
      have HKB := Lib.hid hKB
      have hW5 : W.heap.size < w5.heap.size := by omega
      clear hKB hs5
      refine wpIn_rangeFunc_ownH rfl (by omega) (gf := 73) (lb := #[.pointer (some ⟨w2.heap.size + 1, 0, none⟩), .pointer (some ⟨w2.heap.size + 1 + 1, 0, none⟩)]) rfl trivial (enters_of Try.func73 (by kernel_rfl) rfl)
        hst Kb.trans (fun U l o o' hl h1 h2 h3 => Kb.of (belowK_b (w := w5) (Nat.le_refl _) U l o o' hl h1 h2 h3)) (Below.refl _ _) (fun _ => rfl)
        (fun pre U => (Boxed U W.heap.size 3 (.int .i64 pre.length) ∧ Below W.heap.size w5 U) ∧ pre <+: places pg wd nd)
        (fun c pre U => (c = .exit 2 ∧ r = 0 ∧ (pre.length : Int) = mst ∧ Boxed U W.heap.size 3 (.int .i64 pre.length) ∧ Below W.heap.size w5 U) ∨ (c = .ret ∧ ¬ pre <+: places pg wd nd))
        (OwnFrom.and (OwnFrom.and (Own.from (boxed_own _ _ _) _) (ownFrom_below (by omega) (by omega))) (fun _ _ _ _ h _ _ => h))
        (fun c pre X Y row hs hg hr => hs.imp (fun h => ⟨h.1, h.2.1, h.2.2.1, Own.from (boxed_own W.heap.size 3 (fun (_ : Unit) => .int .i64 (pre.length : Nat))) _ () X Y row h.2.2.2.1 hg hr, ownFrom_below (β := Unit) (by omega) (by omega) () X Y row h.2.2.2.2 hg hr⟩) id)
        ⟨⟨bA, Below.refl _ _⟩, List.nil_prefix⟩
        (fun x a' U => ∃ Bx, w5.heap.size ≤ Bx ∧ U.heap[Bx]? = some (.cells #[.int .i64 (sizeE pg wd (halvesL nd x)), .int .i64 (sizeE pg wd (halvesR nd x))] 49 (0, 0)) ∧
          a' = { tmps := #[vF pg wd, vN A0 c0 A1 c1 A2 c2 nd, .int .i64 mst, .pointer (some ⟨w.heap.size, 0, none⟩), .pointer (some ⟨w.heap.size + 1, 0, none⟩), .pointer (some ⟨w.heap.size + 1 + 1, 0, none⟩), .pointer (some ⟨w.heap.size + 1 + 1 + 1, 0, none⟩), .pointer (some ⟨w1.heap.size, 0, none⟩), .pointer (some ⟨w2.heap.size, 0, none⟩), .func (.func 73) #[] #[.pointer (some ⟨w2.heap.size + 1, 0, none⟩), .pointer (some ⟨w2.heap.size + 1 + 1, 0, none⟩)], .pointer (some ⟨Rb, 0, none⟩), .pointer (some ⟨W.heap.size, 0, none⟩), .int .i64 x, .pointer (some ⟨Bx, 0, none⟩), s14, s15, s16, s17, s18, s19, s20, s21, s22, s23, s24, s25, s26, s27, s28, s29, s30, s31, s32, .int .i64 r, .bool true, s35, s36, .func (.func 73) #[] #[.pointer (some ⟨w2.heap.size + 1, 0, none⟩), .pointer (some ⟨w2.heap.size + 1 + 1, 0, none⟩)], .int .i64 x, .agg #[.int .i64 (sizeE pg wd (halvesL nd x)), .int .i64 (sizeE pg wd (halvesR nd x))], s40, s41, s42, s43, s44, s45, s46, s47, s48, s49, s50, s51, s52, s53, s54, s55, s56, s57, s58, s59, s60, s61, s62, s63, s64, s65, s66, s67, s68, s69, s70, s71, s72, s73, s74, s75, s76, s77, s78, s79, s80, s81], defers := [] })
        (fun x a' _ X Y row hs hg hr => by
          obtain ⟨Bx, h1, h2, h3⟩ := hs
          refine ⟨Bx, h1, ?_, h3⟩
          refine (hg.block Bx (Array.getElem?_eq_some_iff.1 h2).1 (fun e => ?_)).trans h2
          obtain ⟨_, o, ho, hc⟩ := hr Bx e.symm
          rw [h2] at ho
          cases ho
          cases hc)
        ?assign ?body ?done ?stop
      case assign =>
        rintro l pre x U K ⟨⟨bS, bB⟩, hp⟩ hK
        have hi49 : (Try.prog.info? 49).map (·.size) = some 2 := by kernel_rfl
        dsimp only [encCut]
        gi_wp2
        have hz := bB.size
        exact hK _ _ ((KeepsOthers.alloc _ _).from _) (Kb.of ((Below.refl _ U).alloc (by omega) _)) ⟨⟨bS.alloc _, bB.alloc (by omega) _⟩, hp⟩ ⟨U.heap.size, by omega, heap_alloc_new _ _, rfl⟩
      case body =>
        rintro l pre x a' U hl ⟨rr, hrr⟩ ⟨⟨bS, bB⟩, hp⟩ ⟨Bx, hBx, bX, rfl⟩ hlt2
        have hWU := hb5.trans bB
        have hU := HB.out.trans (hWU.mono hsW)
        have hpx := prefix_snoc (x := x) hp hlt2
        have hO := own_below HO4.out hU
        have hRd := (own_rd' hO).2
        obtain ⟨ab, ao, hA⟩ : ∃ ab ao, A = some ⟨ab, ao, none⟩ := by
          obtain ⟨b, o, h, _⟩ := hRd.2 (by omega)
          exact ⟨b, o, h⟩
        subst hA
        obtain ⟨x0, x1, x2⟩ := cuts_at hRd hlt2
        have g2 := (hU.block _ (by omega)).trans HG2.out
        have c8 := cell_of_row _ _ 0 _ _ _ g2
        simp only [List.getElem?_toArray, List.getElem?_cons_zero] at c8
        have cR := (Boxed.kept_below HRB.out hWU).cell
        obtain ⟨_, cM, bR⟩ := qt_boxes (qt_next HL4.out hU)
        have c6 := bR.cell
        have f6 := bR.frozen
        have c11 := bS.cell
        have f11 := bS.frozen
        have y0 := cell_of_row _ _ 0 _ _ _ bX
        have y1 := cell_of_row _ _ 1 _ _ _ bX
        simp only [List.getElem?_toArray, List.getElem?_cons_zero, List.getElem?_cons_succ] at y0 y1
        have hk1 : (pre.length : Int) < ((places pg wd nd).length : Int) := by omega
        have hk2 : decide (((places pg wd nd).length : Int) ≤ (pre.length : Int)) = false := by simp; omega
        have hk3 : decide ((places pg wd nd).length ≤ pre.length) = false := by simp; omega
        have hk4 : 0 ≤ (pre.length : Int) := by omega
        have hRW : Rb < W.heap.size := Boxed.lt HRB.out
        have hnR : W.heap.size ≠ Rb := by omega
        have hnM : W.heap.size ≠ w.heap.size + 1 + 1 := by have := qt_size HL4.out; omega
        have hnA : W.heap.size ≠ w.heap.size + 1 + 1 + 1 := by have := qt_size HL4.out; omega
        have HPX := Lib.hid hpx
        clear hO hRd g2 hpx hst bA hb5
        generalize hP : (places pg wd nd)[pre.length] = P at *
        have hPl : 0 ≤ (P : Int) := by omega
        clear hP
        by_cases hx : P = x
        · subst hx
          generalize sizeE pg wd (halvesL nd P) = s1 at *
          generalize sizeE pg wd (halvesR nd P) = s2 at *
          gi_wp2
          refine wpIn_region_reads (S := fun V => V = U.drew) [(0, true), (1, true), (2, true), (3, true), (4, true), (5, true), (6, true), (7, true), (8, true), (9, true), (10, true), (11, true), (12, true), (13, true), (14, true), (15, true), (16, true)] (by kernel_rfl) (by kernel_rfl) (by kernel_rfl) (fun _ _ d _ _ h => by cases d <;> exact h) rfl ?_
          repeat (apply sched_take; (exact rfl); rfl; (rintro V rfl; go_simp; (try with_reducible rfl)); simp only [Act.put, List.setIfInBounds_toArray, List.set_cons_zero, List.set_cons_succ])
          refine sched_done ?_
          have hsame := HPX.out.2 trivial
          have HSM := Lib.hid hsame
          clear HPX x0 x1 x2 y0 y1 hsame
          by_cases hr0 : r = 0
          · have hr0' : ((r : Int) == 0) = true := by rw [hr0]; rfl
            have HR0 := Lib.hid hr0
            clear hr0
            by_cases hm : (pre.length : Int) + 1 = mst
            · have hm' : ((pre.length : Int) + 1 == mst) = true := by rw [beq_iff_eq]; exact hm
              have HM := Lib.hid hm
              clear hm
              gi_wp2
              exact ⟨((KeepsOthers.setCell _ _ _).trans (KeepsOthers.drew _)).from _, .inl ⟨rfl, HR0.out, by rw [← HM.out]; simp, boxed_next bS, (bB.setCell (p := ⟨W.heap.size, 0, none⟩) (Nat.le_refl _) _).drew⟩⟩
            · have hm' : ((pre.length : Int) + 1 == mst) = false := by rw [beq_eq_false_iff_ne]; exact hm
              clear hm
              gi_wp2
              exact ⟨((KeepsOthers.setCell _ _ _).trans (KeepsOthers.drew _)).from _, (Kb.setCell (S := fun k => k = W.heap.size) U W.heap.size _ rfl).trans (Kb.of (Below.refl _ _).drew), ⟨boxed_next bS, (bB.setCell (p := ⟨W.heap.size, 0, none⟩) (Nat.le_refl _) _).drew⟩, HSM.out⟩
          · have hr0' : ((r : Int) == 0) = false := by rw [beq_eq_false_iff_ne]; omega
            clear hr0
            gi_wp2
            exact ⟨((KeepsOthers.setCell _ _ _).trans (KeepsOthers.drew _)).from _, (Kb.setCell (S := fun k => k = W.heap.size) U W.heap.size _ rfl).trans (Kb.of (Below.refl _ _).drew), ⟨boxed_next bS, (bB.setCell (p := ⟨W.heap.size, 0, none⟩) (Nat.le_refl _) _).drew⟩, HSM.out⟩
        · have hx' : ((P : Int) == (x : Int)) = false := by rw [beq_eq_false_iff_ne]; omega
          have HNX := Lib.hid (fun h => hx (HPX.out.1 h))
          clear hx
          generalize sizeE pg wd (halvesL nd x) = s1 at *
          generalize sizeE pg wd (halvesR nd x) = s2 at *
          generalize sizeE pg wd (halvesL nd P) = u1 at *
          generalize sizeE pg wd (halvesR nd P) = u2 at *
          gi_wp2
          refine wpIn_region_reads (S := fun V => V = U.drew) [(0, true), (1, true), (2, true), (3, true), (4, true), (5, true), (6, true), (7, true), (8, true), (9, true), (10, true), (11, true), (12, true), (13, true), (14, true), (15, true), (16, true)] (by kernel_rfl) (by kernel_rfl) (by kernel_rfl) (fun _ _ d _ _ h => by cases d <;> exact h) rfl ?_
          repeat (apply sched_take; (exact rfl); rfl; (rintro V rfl; go_simp; (try with_reducible rfl)); simp only [Act.put, List.setIfInBounds_toArray, List.set_cons_zero, List.set_cons_succ])
          refine sched_done ?_
          gi_wp2
          exact ⟨((KeepsOthers.setCell _ _ _).trans (KeepsOthers.drew _)).from _, .inr ⟨rfl, HNX.out⟩⟩
      case done =>
        rintro D xs U hD2 rfl ⟨⟨bS, bB⟩, hp⟩ hK
        have hWU := hb5.trans bB
        have hU := HB.out.trans (hWU.mono hsW)
        have g2 := (hU.block _ (by omega)).trans HG2.out
        have c8 := cell_of_row _ _ 0 _ _ _ g2
        simp only [List.getElem?_toArray, List.getElem?_cons_zero] at c8
        have cR := (Boxed.kept_below HRB.out hWU).cell
        obtain ⟨_, cM, _⟩ := qt_boxes (qt_next HL4.out hU)
        have c11 := bS.cell
        have hDU : D < U.heap.size := (Array.getElem?_eq_some_iff.1 hK).1
        have HK := Lib.hid hK
        have HU := Lib.hid hU
        have hr1 : (r : Int) + 1 ≤ 2 := by omega
        have hr1' : 0 ≤ (r : Int) := by omega
        have HD' : Hid (∀ E ∈ D :: Dl, w4.heap.size ≤ E ∧ (U.alloc (.cells #[.int .i64 ((r : Int) + 1)] 3)).heap[E]? = some (.deferred (some []))) := Lib.hid (by
          intro E hE
          rcases List.mem_cons.1 hE with rfl | hE
          · exact ⟨by omega, (Below.heap_alloc _ _ _ hDU).trans HK.out⟩
          · obtain ⟨h1, h2⟩ := HD.out E hE
            have hEl := (Array.getElem?_eq_some_iff.1 h2).1
            have hUs := hWU.size
            exact ⟨h1, (Below.heap_alloc _ _ _ (by omega)).trans ((hWU.block E hEl).trans h2)⟩)
        have HND' : Hid ((D :: Dl).Nodup) := Lib.hid (List.nodup_cons.2 ⟨fun h => by have := (Array.getElem?_eq_some_iff.1 (HD.out D h).2).1; omega, HND.out⟩)
        clear hst bA hb5 g2 hWU hU hK HD HND HKB
        gi_wp2
        refine ⟨⟨r + 1, U.heap.size, D :: Dl, by omega, ?_, Boxed.new _ _ _, ?_, HU.out.alloc (by have := HU.out.size; omega) _, HND'.out, HD'.out, _, _, _, _, _, _, _, _, _, _, _, _, _, _, _, _, _, _, _, _, _, _, _, _, _, _, _, _, _, _, _, _, _, _, _, _, _, _, _, _, _, _, _, _, _, _, _, _, _, _, _, _, _, _, _, _, _, _, _, _, _, _, _, _, _, _, _, _, _, _, _, rfl⟩, ?_⟩
        · simp [roundOf, go_sem]
        · exact HU.out.size
        · rw [HRO.out]; simp [roundOf, go_sem]; omega
      case stop =>
        rintro D cc pre U hD2 hsp hix hK
        rcases hix with ⟨rfl, hr0, hm, bS, bB⟩ | ⟨rfl, hn⟩
        case inr => exact absurd hsp hn
        have hWU := hb5.trans bB
        have hU := HB.out.trans (hWU.mono hsW)
        have g2 := (hU.block _ (by omega)).trans HG2.out
        have c8 := cell_of_row _ _ 0 _ _ _ g2
        simp only [List.getElem?_toArray, List.getElem?_cons_zero] at c8
        have cR := (Boxed.kept_below HRB.out hWU).cell
        obtain ⟨_, cM, _⟩ := qt_boxes (qt_next HL4.out hU)
        have c11 := bS.cell
        have hDU : D < U.heap.size := (Array.getElem?_eq_some_iff.1 hK).1
        have HK := Lib.hid hK
        have HU := Lib.hid hU
        have hr1 : (r : Int) + 1 ≤ 2 := by omega
        have hr1' : 0 ≤ (r : Int) := by omega
        have HD' : Hid (∀ E ∈ D :: Dl, w4.heap.size ≤ E ∧ (U.alloc (.cells #[.int .i64 ((r : Int) + 1)] 3)).heap[E]? = some (.deferred (some []))) := Lib.hid (by
          intro E hE
          rcases List.mem_cons.1 hE with rfl | hE
          · exact ⟨by omega, (Below.heap_alloc _ _ _ hDU).trans HK.out⟩
          · obtain ⟨h1, h2⟩ := HD.out E hE
            have hEl := (Array.getElem?_eq_some_iff.1 h2).1
            have hUs := hWU.size
            exact ⟨h1, (Below.heap_alloc _ _ _ (by omega)).trans ((hWU.block E hEl).trans h2)⟩)
        have HND' : Hid ((D :: Dl).Nodup) := Lib.hid (List.nodup_cons.2 ⟨fun h => by have := (Array.getElem?_eq_some_iff.1 (HD.out D h).2).1; omega, HND.out⟩)
        clear hst bA hb5 g2 hWU hU hK HD HND HKB
        have hr0' : ((r : Int) == 0) = true := by rw [hr0]; rfl
        have hm' : ((pre.length : Int) == mst) = true := by rw [beq_iff_eq]; exact hm
        have HR0 := Lib.hid hr0
        clear hr0 hm
        by_cases hl : pre.length = (places pg wd nd).length
        · have hl1 : ((pre.length : Int) != ((places pg wd nd).length : Int)) = false := by simp [hl]
          have hl2 : (pre.length != (places pg wd nd).length) = false := by simp [hl]
          clear hl
          gi_wp2
          refine ⟨⟨r + 1, U.heap.size, D :: Dl, by omega, ?_, Boxed.new _ _ _, ?_, HU.out.alloc (by have := HU.out.size; omega) _, HND'.out, HD'.out, _, _, _, _, _, _, _, _, _, _, _, _, _, _, _, _, _, _, _, _, _, _, _, _, _, _, _, _, _, _, _, _, _, _, _, _, _, _, _, _, _, _, _, _, _, _, _, _, _, _, _, _, _, _, _, _, _, _, _, _, _, _, _, _, _, _, _, _, _, _, _, rfl⟩, ?_⟩
          · simp [roundOf, go_sem]
          · exact HU.out.size
          · rw [HRO.out]; simp [roundOf, go_sem]; omega
        · have hl1 : ((pre.length : Int) != ((places pg wd nd).length : Int)) = true := by simp; omega
          have hl2 : (pre.length != (places pg wd nd).length) = true := by simp; omega
          clear hl
          gi_wp2
          refine ⟨⟨r + 1, U.heap.size, D :: Dl, by omega, ?_, Boxed.new _ _ _, ?_, HU.out.alloc (by have := HU.out.size; omega) _, HND'.out, HD'.out, _, _, _, _, _, _, _, _, _, _, _, _, _, _, _, _, _, _, _, _, _, _, _, _, _, _, _, _, _, _, _, _, _, _, _, _, _, _, _, _, _, _, _, _, _, _, _, _, _, _, _, _, _, _, _, _, _, _, _, _, _, _, _, _, _, _, _, _, _, _, _, rfl⟩, ?_⟩
          · simp [roundOf, go_sem]
          · exact HU.out.size
          · rw [HRO.out]; simp [roundOf, go_sem]; omega
    · obtain rfl : r = 2 := by omega
      have hq : w.heap.size + 1 + 1 + 1 < w4.heap.size := by have := qt_size HL4.out; omega
      have hsz := HB.out.size
      clear hps c10 f10 hlt z4 h01 y1l
      have c10 := (Boxed.cell HRB.out)
      gi_wp2_with (first
        | (refine ⟨trivial, ?_⟩; gi_at_call 20; refine (callsIn_wide.2 (awake_c _)).mono ?_; rintro e w8 ⟨rfl, hb8⟩
           have hB8 := HB.out.trans (hb8.mono hsz)
           have bR8 := (qt_boxes (qt_next HL4.out hB8)).2.2
           have c6 := bR8.cell
           have f6 := bR8.frozen))
      have hb9 := (qt_below (qt_next HL4.out hB8)).setCell (p := ⟨w.heap.size + 1 + 1 + 1, 0, none⟩) (by simp; omega) (.bool true)
      refine leaves_marks (B := w4.heap.size) Dl _ HND.out (fun D hDm => ⟨(HD.out D hDm).1, ?_⟩) (fun U hU => ⟨.bool true, ?_, rfl, ?_⟩)
      · obtain ⟨h1, h2⟩ := HD.out D hDm
        have hDl := (Array.getElem?_eq_some_iff.1 h2).1
        exact (Below.heap_setCell _ _ _ _ (by simp; omega)).trans ((hb8.block D hDl).trans h2)
      · have hc := Boxed.cell ((hU.block _ hq).trans (bR8.set (.bool true)))
        simp [results, Try.results6, go_sem, hc]
      · exact hb9.trans (hU.mono (by omega))


end Go.Proofs.Ytajkoeodabmgeaa
