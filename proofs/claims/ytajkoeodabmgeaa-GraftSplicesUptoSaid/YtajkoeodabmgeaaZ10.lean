import Derived.Test.YtajkoeodabmgeaaZ4
import Derived.Test.YtajkoeodabmgeaaZ5
import Derived.Test.YtajkoeodabmgeaaZ9

section
namespace Go.Proofs.Ytajkoeodabmgeaa
open Go.RowKit
set_option maxHeartbeats 2000000
set_option maxRecDepth 100000

theorem own_empty (w : World) (e : TypeId) (size : Nat) (g : Nat) (hg : g = w.heap.size) (base : Nat) (hb : base ≤ g) : (w.alloc (.cells #[] e)).ownsRow base e size (.slice (some ⟨g, 0, none⟩) 0 0) 0 [] := by
  subst hg
  exact ⟨by simp, .inr ⟨w.heap.size, 0, #[], rfl, hb, heap_alloc_new w _, Nat.le_refl _, by decide, by simp, by simp⟩⟩

theorem cloneP_c (A : Option Addr) (c : Nat) (l : List PairD) (w : World) (hR : Rd w 2 A l.length (pcells l)) (hl : l.length * 32 ≤ 140737488355328) :
    Calls Try.prog 106 #[.slice A l.length c] w fun e w' => (∃ B d, e = .returned (.slice B l.length d) ∧ w'.ownsRow w.heap.size 31 2 (.slice B l.length d) l.length (pcells l)) ∧ Below w.heap.size w w' := by
  obtain ⟨i0, hi0, hz0, hz1, hz2⟩ := info_parts info31
  have qT : ∀ (w : World) (a : Option Addr) (n c : Nat), (binOp .eql 25 (.slice a n c) (.slice none 0 0)).run Try.prog w = .ok (.bool a.isNone) w := fun w a n c => Lib.run_eql_slice_nil w _ _ a n c _ _ Try.underlying25
  cases A with
  | none =>
    have h0 : l = [] := by
      rcases Nat.eq_zero_or_pos l.length with h | h
      · simpa using h
      · obtain ⟨b, o, e, _⟩ := hR.2 h; cases e
    subst h0
    have HZ0 := Lib.hid hz0
    clear hz0
    go_enter Try.func106, Try.ntmps106
    go_wp2
    go_ret
    exact ⟨⟨none, 0, rfl, World.ownsRow_nil _ _ _ _⟩, Below.refl _ _⟩
  | some a =>
    have HE := Lib.hid (own_empty w 31 2 _ rfl w.heap.size (Nat.le_refl _))
    have HRR := Lib.hid (hR.below ((Below.refl _ _).alloc (Nat.le_refl _) (.cells #[] 31)))
    have HZ0 := Lib.hid hz0
    clear hz0
    go_enter Try.func106, Try.ntmps106
    go_wp2_with (first
      | (at_builtin; refine wpList_append_rd rfl (.tmp 5) (.tmp 6) 25 rfl w.heap.size 31 Try.underlying25 hi0 HZ0.out hz1 hz2 rfl (by decide) rfl HE.out rfl HRR.out (pc1 _) (by rw [Nat.zero_add]; exact hl) (by decide) (by simp) ?_; intro v1 w2 hown hg hx))
    go_ret
    have hb : Below w.heap.size w w2 := ((Below.refl _ _).alloc (Nat.le_refl _) _).grown hg (by simp) (fun k e => (HE.out.lt k e).1)
    rw [Nat.zero_add, List.nil_append] at hown
    obtain ⟨B, d, rfl, _, _⟩ := own_rd hown
    exact ⟨⟨B, d, rfl, hown⟩, hb⟩

theorem cloneS_c (A : Option Addr) (c : Nat) (l : List ByteArray) (w : World) (hR : Rd w 1 A l.length (scells l)) (hl : l.length * 16 ≤ 140737488355328) :
    Calls Try.prog 107 #[.slice A l.length c] w fun e w' => (∃ B d, e = .returned (.slice B l.length d) ∧ w'.ownsRow w.heap.size 9 1 (.slice B l.length d) l.length (scells l)) ∧ Below w.heap.size w w' := by
  obtain ⟨i0, hi0, hz0, hz1, hz2⟩ := info_parts info9
  have qT : ∀ (w : World) (a : Option Addr) (n c : Nat), (binOp .eql 26 (.slice a n c) (.slice none 0 0)).run Try.prog w = .ok (.bool a.isNone) w := fun w a n c => Lib.run_eql_slice_nil w _ _ a n c _ _ Try.underlying26
  cases A with
  | none =>
    have h0 : l = [] := by
      rcases Nat.eq_zero_or_pos l.length with h | h
      · simpa using h
      · obtain ⟨b, o, e, _⟩ := hR.2 h; cases e
    subst h0
    have HZ0 := Lib.hid hz0
    clear hz0
    go_enter Try.func107, Try.ntmps107
    go_wp2
    go_ret
    exact ⟨⟨none, 0, rfl, World.ownsRow_nil _ _ _ _⟩, Below.refl _ _⟩
  | some a =>
    have HE := Lib.hid (own_empty w 9 1 _ rfl w.heap.size (Nat.le_refl _))
    have HRR := Lib.hid (hR.below ((Below.refl _ _).alloc (Nat.le_refl _) (.cells #[] 9)))
    have HZ0 := Lib.hid hz0
    clear hz0
    go_enter Try.func107, Try.ntmps107
    go_wp2_with (first
      | (at_builtin; refine wpList_append_rd rfl (.tmp 5) (.tmp 6) 26 rfl w.heap.size 9 Try.underlying26 hi0 HZ0.out hz1 hz2 rfl (by decide) rfl HE.out rfl HRR.out (sc1 _) (by rw [Nat.zero_add]; exact hl) (by decide) (by simp) ?_; intro v1 w2 hown hg hx))
    go_ret
    have hb : Below w.heap.size w w2 := ((Below.refl _ _).alloc (Nat.le_refl _) _).grown hg (by simp) (fun k e => (HE.out.lt k e).1)
    rw [Nat.zero_add, List.nil_append] at hown
    obtain ⟨B, d, rfl, _, _⟩ := own_rd hown
    exact ⟨⟨B, d, rfl, hown⟩, hb⟩

theorem cloneK_c (A : Option Addr) (c : Nat) (l : List KidD) (w : World) (hR : Rd w 33 A l.length (kcells l)) (hl : l.length * 36 ≤ 140737488355328) :
    Calls Try.prog 108 #[.slice A l.length c] w fun e w' => (∃ B d, e = .returned (.slice B l.length d) ∧ w'.ownsRow w.heap.size 85 33 (.slice B l.length d) l.length (kcells l)) ∧ Below w.heap.size w w' := by
  obtain ⟨i0, hi0, hz0, hz1, hz2⟩ := info_parts info85'
  have qT : ∀ (w : World) (a : Option Addr) (n c : Nat), (binOp .eql 27 (.slice a n c) (.slice none 0 0)).run Try.prog w = .ok (.bool a.isNone) w := fun w a n c => Lib.run_eql_slice_nil w _ _ a n c _ _ Try.underlying27
  cases A with
  | none =>
    have h0 : l = [] := by
      rcases Nat.eq_zero_or_pos l.length with h | h
      · simpa using h
      · obtain ⟨b, o, e, _⟩ := hR.2 h; cases e
    subst h0
    have HZ0 := Lib.hid hz0
    clear hz0
    go_enter Try.func108, Try.ntmps108
    go_wp2
    go_ret
    exact ⟨⟨none, 0, rfl, World.ownsRow_nil _ _ _ _⟩, Below.refl _ _⟩
  | some a =>
    have HE := Lib.hid (own_empty w 85 33 _ rfl w.heap.size (Nat.le_refl _))
    have HRR := Lib.hid (hR.below ((Below.refl _ _).alloc (Nat.le_refl _) (.cells #[] 85)))
    have HZ0 := Lib.hid hz0
    clear hz0
    go_enter Try.func108, Try.ntmps108
    go_wp2_with (first
      | (at_builtin; refine wpList_append_rd rfl (.tmp 5) (.tmp 6) 27 rfl w.heap.size 85 Try.underlying27 hi0 HZ0.out hz1 hz2 (by kernel_rfl) (by decide) rfl HE.out rfl HRR.out (kc1 _) (by rw [Nat.zero_add]; exact hl) (by decide) (by simp) ?_; intro v1 w2 hown hg hx))
    go_ret
    have hb : Below w.heap.size w w2 := ((Below.refl _ _).alloc (Nat.le_refl _) _).grown hg (by simp) (fun k e => (HE.out.lt k e).1)
    rw [Nat.zero_add, List.nil_append] at hown
    obtain ⟨B, d, rfl, _, _⟩ := own_rd hown
    exact ⟨⟨B, d, rfl, hown⟩, hb⟩

end Go.Proofs.Ytajkoeodabmgeaa
end

section
namespace Go.Proofs.Ytajkoeodabmgeaa
open Go.RowKit
set_option maxHeartbeats 2000000
set_option maxRecDepth 100000

theorem nodeCopy_c (A0 A1 A2 : Option Addr) (c0 c1 c2 : Nat) (nd : NodeD) (w : World) (hN : RdN w A0 c0 A1 c1 A2 c2 nd) :
    Calls Try.prog 88 #[vN A0 c0 A1 c1 A2 c2 nd] w fun e w' =>
      ∃ B0 d0 B1 d1 B2 d2, e = .returned (vN B0 d0 B1 d1 B2 d2 nd) ∧ OwN w' w.heap.size w'.heap.size B0 d0 B1 d1 B2 d2 nd ∧ Below w.heap.size w w' := by
  have HN := Lib.hid hN
  have hp := hN.hp
  have hs := hN.hs
  have hk := hN.hk
  clear hN
  go_enter Try.func88, Try.ntmps88
  go_wp2
  have hS1 := @cW_start w (.slice A0 nd.pairs.length c0) (.slice A1 nd.seps.length c1) (.slice A2 nd.kids.length c2)
  have HF := Lib.hid (fun W (h : Box (w.heap.size + 1) 3 29 (cW w (.slice A0 nd.pairs.length c0) (.slice A1 nd.seps.length c1) (.slice A2 nd.kids.length c2)) W) => cW_cells h)
  refine wp_region_sched (S := Box (w.heap.size + 1) 3 29 (cW w (.slice A0 nd.pairs.length c0) (.slice A1 nd.seps.length c1) (.slice A2 nd.kids.length c2)))
    [(0, true), (1, true), (3, true), (4, true), (6, true), (7, true), (2, false), (5, false), (8, false), (9, true), (10, false)]
    (by kernel_rfl) (by kernel_rfl) (by kernel_rfl) (fun _ _ d _ _ h => by cases d <;> exact h) hS1.drew ?_
  repeat (apply sched_take; (exact rfl); rfl; (intro W hW; obtain ⟨q0, q1, q2⟩ := HF.out W hW; go_simp; (try with_reducible rfl)); simp only [Act.put, List.setIfInBounds_toArray, List.set_cons_zero, List.set_cons_succ])
  apply sched_run; (exact rfl); rfl; intro K hK; go_simp
  refine (cloneP_c A0 c0 nd.pairs _ (HN.out.pairs.below (cW_below rfl hS1.drew)) hp).mono ?_
  rintro e w1 ⟨⟨B0, d0, rfl, hown1⟩, hb1⟩
  have hS2 := hS1.drew.step hb1
  have HO1 := Lib.hid hown1
  clear hown1
  refine hK.out _ _ hS2 (fun _ => ?_)
  clear hK K
  try simp only [Act.put, List.setIfInBounds_toArray, List.set_cons_zero, List.set_cons_succ]
  apply sched_run; (exact rfl); rfl; intro K hK; go_simp
  refine (cloneS_c A1 c1 nd.seps _ (HN.out.seps.below (cW_below rfl hS2)) hs).mono ?_
  rintro e w2 ⟨⟨B1, d1, rfl, hown2⟩, hb2⟩
  have hS3 := hS2.step hb2
  have HO2 := Lib.hid hown2
  clear hown2
  refine hK.out _ _ hS3 (fun _ => ?_)
  clear hK K
  try simp only [Act.put, List.setIfInBounds_toArray, List.set_cons_zero, List.set_cons_succ]
  apply sched_run; (exact rfl); rfl; intro K hK; go_simp
  refine (cloneK_c A2 c2 nd.kids _ (HN.out.kids.below (cW_below rfl hS3)) hk).mono ?_
  rintro e w3 ⟨⟨B2, d2, rfl, hown3⟩, hb3⟩
  have hS4 := hS3.step hb3
  have HO3 := Lib.hid hown3
  clear hown3
  refine hK.out _ _ hS4 (fun _ => ?_)
  clear hK K
  try simp only [Act.put, List.setIfInBounds_toArray, List.set_cons_zero, List.set_cons_succ]
  repeat (apply sched_take; (exact rfl); rfl; (intro W hW; obtain ⟨q0, q1, q2⟩ := HF.out W hW; go_simp; (try with_reducible rfl)); simp only [Act.put, List.setIfInBounds_toArray, List.set_cons_zero, List.set_cons_succ])
  apply sched_run; (exact rfl); rfl; intro K hK
  refine wp_store_box hS4 29 (.tmp 2) (.tmp 12) rfl _ rfl rfl info29' rfl ?_ ?_
  · exact sl3_one _ _ _ _ _ _ _ _ _
  refine hK.out _ _ (hS4.setRow _ rfl) (fun _ => ?_)
  clear hK K
  refine sched_done ?_
  go_wp2
  refine bodyPost_ret (results_cell_row rfl _ _ (w.heap.size + 1) 29 _ (0, 0) _ rfl (hS4.2.setRow _ rfl).2 Try.underlying29 rfl info29') rfl ?_
  have hz : w.heap.size + 1 + 1 = (cW w (.slice A0 nd.pairs.length c0) (.slice A1 nd.seps.length c1) (.slice A2 nd.kids.length c2)).drew.heap.size := by simp [cW]
  have hN := HN.out
  have h0 : OwN w3 (w.heap.size + 1 + 1) w3.heap.size B0 d0 B1 d1 B2 d2 nd :=
    { pairs := ownsRow_mono' (own_below (own_below HO1.out hb2) hb3) (Nat.le_of_eq hz)
      seps := ownsRow_mono' (own_below HO2.out hb3) hS2.2.lt
      kids := ownsRow_mono' HO3.out (Nat.lt_of_lt_of_le hS2.2.lt hb2.size)
      u0 := fun k hk => own_lt (own_below (own_below HO1.out hb2) hb3) k hk
      u1 := fun k hk => own_lt (own_below HO2.out hb3) k hk
      u2 := fun k hk => own_lt HO3.out k hk
      hp := hp
      hs := hs
      hk := hk
      pk := hN.pk
      sk := hN.sk
      kk := hN.kk }
  exact ⟨B0, d0, B1, d1, B2, d2, rfl, (h0.setRow _ _ (by omega)).wide (by omega) (by simp [World.setRow]), cW_below rfl (hS4.setRow _ rfl)⟩

end Go.Proofs.Ytajkoeodabmgeaa
end

section
namespace Go.Proofs.Ytajkoeodabmgeaa
open Go.RowKit
set_option maxHeartbeats 2000000
set_option maxRecDepth 100000
attribute [local go_sem] grow_cell grow_frozen grow_size

/-- The world of Remove's three blocks. -/
abbrev remW (w : World) (a b c d e : Value) : World :=
  ((w.alloc (.cells #[a, b] 24)).alloc (.cells #[c, d, e] 29)).alloc (.cells #[.slice none 0 0, .slice none 0 0, .slice none 0 0] 29)
section
variable {w w1 w2 : World} {a b c d e : Value}
theorem rem_row (h : Below (w.heap.size + 1 + 1 + 1) (remW w a b c d e) w1) : w1.heap[w.heap.size + 1 + 1]? = some (.cells #[.slice none 0 0, .slice none 0 0, .slice none 0 0] 29 (0, 0)) := (h.block _ (by omega)).trans (alloc3_at w _ _ _)
theorem rem_lt (h : Below (w.heap.size + 1 + 1 + 1) (remW w a b c d e) w1) : w.heap.size + 1 + 1 < w1.heap.size := by
  have := h.size
  simp only [World.size_alloc, remW] at this
  omega
theorem rem_boxes (h : Below (w.heap.size + 1 + 1 + 1) (remW w a b c d e) w1) :
    (w1.cell? ⟨w.heap.size, 0, none⟩ = some a ∧ w1.cell? ⟨w.heap.size, 1, none⟩ = some b) ∧
    (w1.cell? ⟨w.heap.size + 1, 0, none⟩ = some c ∧ w1.cell? ⟨w.heap.size + 1, 1, none⟩ = some d ∧ w1.cell? ⟨w.heap.size + 1, 2, none⟩ = some e) := by
  have h0 : w1.heap[w.heap.size]? = some (.cells #[a, b] 24 (0, 0)) := (h.block _ (by omega)).trans (alloc3_0 w _ _ _)
  have h1 : w1.heap[w.heap.size + 1]? = some (.cells #[c, d, e] 29 (0, 0)) := (h.block _ (by omega)).trans (alloc3_1 w _ _ _)
  exact ⟨⟨cell_of_row _ _ 0 _ _ _ h0, cell_of_row _ _ 1 _ _ _ h0⟩, ⟨cell_of_row _ _ 0 _ _ _ h1, cell_of_row _ _ 1 _ _ _ h1, cell_of_row _ _ 2 _ _ _ h1⟩⟩
theorem rem_first (hb : Below (remW w a b c d e).heap.size (remW w a b c d e) w1) : Below (w.heap.size + 1 + 1 + 1) (remW w a b c d e) w1 := hb.mono (by simp [remW])
theorem rem_next (h : Below (w.heap.size + 1 + 1 + 1) (remW w a b c d e) w1) (hb : Below w1.heap.size w1 w2) : Below (w.heap.size + 1 + 1 + 1) (remW w a b c d e) w2 := h.trans (hb.mono (rem_lt h))
theorem rem_below (h : Below (w.heap.size + 1 + 1 + 1) (remW w a b c d e) w1) : Below w.heap.size w w1 :=
  (((((Below.refl _ _).alloc (Nat.le_refl _) _).alloc (by simp) _).alloc (by simp <;> omega) _)).trans (h.mono (by omega))
theorem RdN.rem {A0 A1 A2 : Option Addr} {c0 c1 c2 : Nat} {nd : NodeD} (hN : RdN w A0 c0 A1 c1 A2 c2 nd) (h : Below (w.heap.size + 1 + 1 + 1) (remW w a b c d e) w1) : RdN w1 A0 c0 A1 c1 A2 c2 nd :=
  hN.below (rem_below h)
end

def remN (nd : NodeD) (key : ByteArray) : NodeD := ⟨wo key nd.pairs, [], []⟩
def remE (pg wd : Int) (nd : NodeD) : Int := if right pg wd then (if leafB pg wd nd then 0 else 80) else 2
def remR (pg wd : Int) (nd : NodeD) (key : ByteArray) : NodeD := if remE pg wd nd = 0 then remN nd key else noN
def remB (pg wd : Int) (nd : NodeD) (key : ByteArray) : Bool := if remE pg wd nd = 0 then findB nd.pairs key else false

/-- What both Removes promise. -/
abbrev RemPost (pg wd : Int) (nd : NodeD) (key : ByteArray) (w : World) (e : Ending) (w' : World) : Prop :=
  ∃ B0 d0 B1 d1 B2 d2, e = .returned (.tuple #[vN B0 d0 B1 d1 B2 d2 (remR pg wd nd key), .bool (remB pg wd nd key), .int .i64 (remE pg wd nd)]) ∧
    OwN w' w.heap.size w'.heap.size B0 d0 B1 d1 B2 d2 (remR pg wd nd key) ∧ Below w.heap.size w w'

theorem rem_err (w w1 : World) (pg wd : Int) (nd : NodeD) (key : ByteArray) (E : Int) (hE : remE pg wd nd = E) (hne : E ≠ 0) (hb : Below w.heap.size w w1) :
    RemPost pg wd nd key w (Ending.returned (.tuple #[.agg #[.slice none 0 0, .slice none 0 0, .slice none 0 0], .bool false, .int .i64 E])) w1 := by
  refine ⟨none, 0, none, 0, none, 0, ?_, ?_, hb⟩
  · simp [remR, remB, hE, hne, noN]
  · simp only [remR, hE, if_neg hne]; exact own_noN _ _ _

/-- The pairs without a key: found out by place. -/
theorem wo_find (key : ByteArray) : ∀ l : List PairD, up l → wo key l = (if findB l key then l.take (findI l key) ++ l.drop (findI l key + 1) else l) ∧ woB key l = findB l key
  | [], _ => by simp [wo, findB, woB]
  | a :: t, h => by
    obtain ⟨ha, ht⟩ := List.pairwise_cons.1 h
    obtain ⟨ih, ihB⟩ := wo_find key t ht
    rcases lt_total a.k.toList key.toList with e | e | e
    · have hk : isK key a = false := by
        simp only [isK, beq_eq_false_iff_ne]
        intro h'; rw [h', lt_irrefl] at e; cases e
      have e1 : wo key (a :: t) = a :: wo key t := by simp [wo, hk]
      have e3 : findI (a :: t) key = findI t key + 1 := by unfold findI; rw [cntW_cons, if_pos e]
      have e4 : findB (a :: t) key = findB t key := by unfold findB; rw [e3, List.getElem?_cons_succ]
      constructor
      · rw [e1, e3, e4, ih]
        cases findB t key <;> simp
      · rw [e4, ← ihB]; simp [woB, hk]
    · have hk : isK key a = true := by simp [isK, e]
      have hall : ∀ q ∈ t, bl key q.k = true := by
        intro q hq
        have := ha q hq
        rwa [bl, e] at this
      obtain ⟨w1, w2⟩ := wo_self hall
      have e1 : wo key (a :: t) = t := by rw [← w1]; simp [wo, hk]
      have e3 : findI (a :: t) key = 0 := by unfold findI; rw [cntW_cons, if_neg]; rw [bl, e]; intro h'; have h'' : lt key.toList key.toList = true := h'; rw [lt_irrefl] at h''; cases h''
      have e4 : findB (a :: t) key = true := by unfold findB; rw [e3]; simp [e]
      constructor
      · rw [e1, e3, e4]; simp
      · rw [e4]; simp [woB, hk]
    · have hall : ∀ q ∈ a :: t, bl key q.k = true := by
        intro q hq
        rcases List.mem_cons.1 hq with rfl | hq
        · exact e
        · exact bl_trans e (ha q hq)
      obtain ⟨w1, w2⟩ := wo_self hall
      have e3 : findI (a :: t) key = 0 := by unfold findI; rw [cntW_cons, if_neg]; rw [show bl a.k key = false from lt_asymm e]; decide
      have e4 : findB (a :: t) key = false := by
        unfold findB; rw [e3]
        show (a.k.toList == key.toList) = false
        simp only [beq_eq_false_iff_ne]
        intro h'; rw [h', lt_irrefl] at e; cases e
      constructor
      · rw [w1, e4]; simp
      · rw [w2, e4]
theorem find_at (l : List PairD) (key : ByteArray) (h : findB l key = true) : findI l key < l.length := by
  unfold findB at h
  cases hh : l[findI l key]? with
  | none => rw [hh] at h; cases h
  | some p => exact (List.getElem?_eq_some_iff.1 hh).1
theorem leaf_same {pg wd : Int} {nd : NodeD} (h : leafB pg wd nd = true) : nd = ⟨nd.pairs, [], []⟩ := by
  rw [leafB_iff, decide_eq_true_iff] at h
  obtain ⟨p, s, k⟩ := nd
  have h1 : s.length = 0 := h.2.1
  have h2 : k.length = 0 := h.2.2
  rw [List.length_eq_zero_iff] at h1 h2
  subst h1 h2; rfl

end Go.Proofs.Ytajkoeodabmgeaa
end

section
namespace Go.Proofs.Ytajkoeodabmgeaa
open Go.RowKit
set_option maxHeartbeats 2000000
set_option maxRecDepth 100000
attribute [local go_sem] grow_cell grow_frozen grow_size

theorem remove_wrong (pg wd : Int) (A0 A1 A2 : Option Addr) (c0 c1 c2 : Nat) (nd : NodeD) (key : ByteArray) (w : World) (hr : right pg wd = false) :
    Calls Try.prog 48 #[vF pg wd, vN A0 c0 A1 c1 A2 c2 nd, .string key] w fun e w' => RemPost pg wd nd key w e w' := by
  have hE : remE pg wd nd = 2 := by simp [remE, hr]
  have HE := Lib.hid hE
  have HR := Lib.hid hr
  clear hE hr
  go_enter Try.func48, Try.ntmps48
  go_wp2_with (first
    | (go_at_call 61; refine (frame_v pg wd _ _ HR.out).mono ?_; rintro e w1 ⟨rfl, hb⟩; have hBB := rem_first hb; clear hb; obtain ⟨⟨q0, q1⟩, q2, q3, q4⟩ := rem_boxes hBB; have q7 := rem_lt hBB; have HG := Lib.hid (rem_row hBB))
    | (refine wpList_store_row rfl 29 (.tmp 6) (.tmp 15) rfl (w.heap.size + 1 + 1) #[.slice none 0 0, .slice none 0 0, .slice none 0 0] rfl rfl 29 _ HG.out info29' rfl (sl3_one _ _ _ _ _ _ _ _ _) ?_))
  refine bodyPost_ret (results_ctt rfl _ _ (w.heap.size + 1 + 1) 29 #[.slice none 0 0, .slice none 0 0, .slice none 0 0] (0, 0) _ rfl (setRow_block _ _ _ _ _ _ HG.out) Try.underlying29 rfl info29') rfl ?_
  exact rem_err w _ pg wd nd key 2 HE.out (by decide) (below_setRow (rem_below hBB) (by omega) _)

theorem remove_unshaped (pg wd : Int) (A0 A1 A2 : Option Addr) (c0 c1 c2 : Nat) (nd : NodeD) (key : ByteArray) (w : World) (hN : RdN w A0 c0 A1 c1 A2 c2 nd) (hr : right pg wd = true) (hl : leafB pg wd nd = false) :
    Calls Try.prog 48 #[vF pg wd, vN A0 c0 A1 c1 A2 c2 nd, .string key] w fun e w' => RemPost pg wd nd key w e w' := by
  have hE : remE pg wd nd = 80 := by simp [remE, hr, hl]
  have HE := Lib.hid hE
  have HR := Lib.hid hr
  have HL := Lib.hid hl
  have HN := Lib.hid hN
  clear hE hr hl hN
  go_enter Try.func48, Try.ntmps48
  go_wp2_with (first
    | (go_at_call 61; refine (frame_v pg wd _ _ HR.out).mono ?_; rintro e w1 ⟨rfl, hb⟩; have hBB := rem_first hb; clear hb; obtain ⟨⟨q0, q1⟩, q2, q3, q4⟩ := rem_boxes hBB; have q7 := rem_lt hBB)
    | (go_at_call 62; refine (leaf_v pg wd A0 A1 A2 c0 c1 c2 nd _ (HN.out.rem hBB) _ HL.out).mono ?_; rintro e w2 ⟨rfl, hb⟩; have hBB2 := rem_next hBB hb; clear hb q0 q1 q2 q3 q4 q7 hBB; have q7 := rem_lt hBB2; have HG := Lib.hid (rem_row hBB2))
    | (refine wpList_store_row rfl 29 (.tmp 6) (.tmp 21) rfl (w.heap.size + 1 + 1) #[.slice none 0 0, .slice none 0 0, .slice none 0 0] rfl rfl 29 _ HG.out info29' rfl (sl3_one _ _ _ _ _ _ _ _ _) ?_))
  refine bodyPost_ret (results_ctt rfl _ _ (w.heap.size + 1 + 1) 29 #[.slice none 0 0, .slice none 0 0, .slice none 0 0] (0, 0) _ rfl (setRow_block _ _ _ _ _ _ HG.out) Try.underlying29 rfl info29') rfl ?_
  exact rem_err w _ pg wd nd key 80 HE.out (by decide) (below_setRow (rem_below hBB2) (by omega) _)

theorem remN_own {w : World} {lo hi : Nat} {nd : NodeD} {key : ByteArray} {A : Option Addr} {c : Nat}
    (h : w.ownsRow lo 31 2 (.slice A (wo key nd.pairs).length c) (wo key nd.pairs).length (pcells (wo key nd.pairs))) (hhi : w.heap.size ≤ hi)
    (hb : nd.pairs.length * 32 ≤ 140737488355328) (hpk : ∀ q ∈ nd.pairs, q.k.size ≤ 140737488355328 ∧ q.v.size ≤ 140737488355328) :
    OwN w lo hi A c none 0 none 0 (remN nd key) :=
  OwN.leaf h hhi (by have := wo_len key nd.pairs; omega) (fun q hq => hpk q (List.mem_filter.1 hq).1)

theorem rem_fin (w w1 : World) (pg wd : Int) (nd : NodeD) (key : ByteArray) (A B C : Option Addr) (c d e : Nat) (hE : remE pg wd nd = 0) (b : Bool) (hfb : findB nd.pairs key = b) (hb : Below w.heap.size w w1)
    (h : OwN w1 w.heap.size w1.heap.size A c B d C e (remN nd key)) :
    RemPost pg wd nd key w (Ending.returned (.tuple #[vN A c B d C e (remN nd key), .bool b, .int .i64 0])) w1 := by
  refine ⟨A, c, B, d, C, e, ?_, ?_, hb⟩
  · simp [remR, remB, hE, hfb]
  · simpa only [remR, hE, if_true] using h

theorem remove_ok (pg wd : Int) (A0 A1 A2 : Option Addr) (c0 c1 c2 : Nat) (nd : NodeD) (key : ByteArray) (w : World) (hN : RdN w A0 c0 A1 c1 A2 c2 nd) (hr : right pg wd = true) (hl : leafB pg wd nd = true) :
    Calls Try.prog 48 #[vF pg wd, vN A0 c0 A1 c1 A2 c2 nd, .string key] w fun e w' => RemPost pg wd nd key w e w' := by
  have hE : remE pg wd nd = 0 := by simp [remE, hr, hl]
  have HE := Lib.hid hE
  have HR := Lib.hid hr
  have HL := Lib.hid hl
  have HN := Lib.hid hN
  have hc0 := hN.hcp
  have hpl := hN.hp
  obtain ⟨hwo, _⟩ := wo_find key nd.pairs (leaf_up hl)
  have hsame := leaf_same hl
  have hat := find_at nd.pairs key
  clear hE hr hl hN
  cases hfb : findB nd.pairs key
  · have HFB := Lib.hid hfb
    rw [hfb, if_neg (by decide)] at hwo
    have hnd : nd = remN nd key := by rw [remN, hwo]; exact hsame
    have HND := Lib.hid hnd
    clear hfb hwo hsame hat hnd
    go_enter Try.func48, Try.ntmps48
    go_wp2_with (first
      | (go_at_call 61; refine (frame_v pg wd _ _ HR.out).mono ?_; rintro e w1 ⟨rfl, hb⟩; have hBB := rem_first hb; clear hb; obtain ⟨⟨q0, q1⟩, q2, q3, q4⟩ := rem_boxes hBB; have q7 := rem_lt hBB)
      | (go_at_call 62; refine (leaf_v pg wd A0 A1 A2 c0 c1 c2 nd _ (HN.out.rem hBB) _ HL.out).mono ?_; rintro e w2 ⟨rfl, hb⟩; have hBB2 := rem_next hBB hb; clear hb q0 q1 q2 q3 q4 q7 hBB; obtain ⟨⟨q0, q1⟩, q2, q3, q4⟩ := rem_boxes hBB2; have q7 := rem_lt hBB2)
      | (go_at_call 42; refine (find_c A0 A1 A2 c0 c1 c2 nd key _ (HN.out.rem hBB2)).mono ?_; rintro e w3 ⟨rfl, hb⟩; rw [HFB.out]; have hBB3 := rem_next hBB2 hb; clear hb q0 q1 q2 q3 q4 q7 hBB2; obtain ⟨⟨q0, q1⟩, q2, q3, q4⟩ := rem_boxes hBB3; have q7 := rem_lt hBB3)
      | (go_at_call 88; refine (nodeCopy_c A0 A1 A2 c0 c1 c2 nd _ (HN.out.rem hBB3)).mono ?_; rintro e w4 ⟨B0, d0, B1, d1, B2, d2, rfl, hown, hb⟩; have hBB4 := rem_next hBB3 hb; clear hb q0 q1 q2 q3 q4; have q8 := rem_lt hBB4; have HG := Lib.hid (rem_row hBB4); have HO := Lib.hid hown; clear hown hBB3)
      | (refine wpList_store_row rfl 29 (.tmp 6) (.tmp 31) rfl (w.heap.size + 1 + 1) #[.slice B0 nd.pairs.length d0, .slice B1 nd.seps.length d1, .slice B2 nd.kids.length d2] rfl rfl 29 _ HG.out info29' rfl (sl3_one _ _ _ _ _ _ _ _ _) ?_))
    refine bodyPost_ret (results_ctt rfl _ _ (w.heap.size + 1 + 1) 29 #[.slice B0 nd.pairs.length d0, .slice B1 nd.seps.length d1, .slice B2 nd.kids.length d2] (0, 0) _ rfl (setRow_block _ _ _ _ _ _ HG.out) Try.underlying29 rfl info29') rfl ?_
    have hx : OwN w4 w.heap.size w4.heap.size B0 d0 B1 d1 B2 d2 (remN nd key) := by
      rw [← HND.out]; exact HO.out.wide (by omega) (Nat.le_refl _)
    have hr := rem_fin w (w4.setRow (w.heap.size + 1 + 1) #[.slice B0 nd.pairs.length d0, .slice B1 nd.seps.length d1, .slice B2 nd.kids.length d2]) pg wd nd key B0 B1 B2 d0 d1 d2 HE.out _ HFB.out (below_setRow (rem_below hBB4) (by omega) _)
      (by rw [← HND.out]; exact (HO.out.setRow _ _ (by omega)).wide (by omega) (by simp [World.setRow]))
    rw [show vN B0 d0 B1 d1 B2 d2 (remN nd key) = vN B0 d0 B1 d1 B2 d2 nd by rw [← HND.out]] at hr
    exact hr
  · have HFB := Lib.hid hfb
    have hlt := hat hfb
    rw [hfb, if_pos rfl] at hwo
    have HW := Lib.hid hwo.symm
    have hii : (findI nd.pairs key : Int) < nd.pairs.length := by omega
    clear hfb hwo hsame hat
    go_enter Try.func48, Try.ntmps48
    go_wp2_with (first
      | (go_at_call 61; refine (frame_v pg wd _ _ HR.out).mono ?_; rintro e w1 ⟨rfl, hb⟩; have hBB := rem_first hb; clear hb; obtain ⟨⟨q0, q1⟩, q2, q3, q4⟩ := rem_boxes hBB; have q7 := rem_lt hBB)
      | (go_at_call 62; refine (leaf_v pg wd A0 A1 A2 c0 c1 c2 nd _ (HN.out.rem hBB) _ HL.out).mono ?_; rintro e w2 ⟨rfl, hb⟩; have hBB2 := rem_next hBB hb; clear hb q0 q1 q2 q3 q4 q7 hBB; obtain ⟨⟨q0, q1⟩, q2, q3, q4⟩ := rem_boxes hBB2; have q7 := rem_lt hBB2)
      | (go_at_call 42; refine (find_c A0 A1 A2 c0 c1 c2 nd key _ (HN.out.rem hBB2)).mono ?_; rintro e w3 ⟨rfl, hb⟩; rw [HFB.out]; have hBB3 := rem_next hBB2 hb; clear hb q0 q1 q2 q3 q4 q7 hBB2; obtain ⟨⟨q0, q1⟩, q2, q3, q4⟩ := rem_boxes hBB3; have q7 := rem_lt hBB3)
      | (go_at_call 65; refine (putP_none A0 c0 nd.pairs _ (HN.out.rem hBB3).pairs hc0 hpl (findI nd.pairs key) 1 _ _ rfl rfl (by omega) (wo key nd.pairs) HW.out).mono ?_; rintro e w4 ⟨⟨B0, d0, rfl, hown⟩, hb⟩; have hBB4 := rem_next hBB3 hb; clear hb q0 q1 q2 q3 q4; have q8 := rem_lt hBB4; have HG := Lib.hid (rem_row hBB4); have HO := Lib.hid hown; clear hown hBB3)
      | (refine wpList_store_row rfl 29 (.tmp 6) (.tmp 36) rfl (w.heap.size + 1 + 1) #[.slice B0 (wo key nd.pairs).length d0, .slice none 0 0, .slice none 0 0] rfl rfl 29 _ HG.out info29' rfl (sl3_one _ _ _ _ _ _ _ _ _) ?_))
    refine bodyPost_ret (results_ctt rfl _ _ (w.heap.size + 1 + 1) 29 #[.slice B0 (wo key nd.pairs).length d0, .slice none 0 0, .slice none 0 0] (0, 0) _ rfl (setRow_block _ _ _ _ _ _ HG.out) Try.underlying29 rfl info29') rfl ?_
    exact rem_fin w _ pg wd nd key B0 none none d0 0 0 HE.out _ HFB.out (below_setRow (rem_below hBB4) (by omega) _) (((remN_own HO.out (Nat.le_refl _) hpl HN.out.pk).setRow _ _ (by omega)).wide (by omega) (by simp [World.setRow]))

theorem remove_c (pg wd : Int) (A0 A1 A2 : Option Addr) (c0 c1 c2 : Nat) (nd : NodeD) (key : ByteArray) (w : World) (hN : RdN w A0 c0 A1 c1 A2 c2 nd) :
    Calls Try.prog 48 #[vF pg wd, vN A0 c0 A1 c1 A2 c2 nd, .string key] w fun e w' => RemPost pg wd nd key w e w' := by
  cases hr : right pg wd with
  | false => exact remove_wrong pg wd A0 A1 A2 c0 c1 c2 nd key w hr
  | true =>
    cases hl : leafB pg wd nd with
    | false => exact remove_unshaped pg wd A0 A1 A2 c0 c1 c2 nd key w hN hr hl
    | true => exact remove_ok pg wd A0 A1 A2 c0 c1 c2 nd key w hN hr hl

end Go.Proofs.Ytajkoeodabmgeaa
end

section
namespace Go.Proofs.Ytajkoeodabmgeaa
open Go.RowKit
set_option maxHeartbeats 2000000
set_option maxRecDepth 100000
attribute [local go_sem] grow_cell grow_frozen grow_size

theorem refRemove_wrong (pg wd : Int) (A0 A1 A2 : Option Addr) (c0 c1 c2 : Nat) (nd : NodeD) (key : ByteArray) (w : World) (hr : right pg wd = false) :
    Calls Try.prog 49 #[vF pg wd, vN A0 c0 A1 c1 A2 c2 nd, .string key] w fun e w' => RemPost pg wd nd key w e w' := by
  have hE : remE pg wd nd = 2 := by simp [remE, hr]
  have HE := Lib.hid hE
  have HR := Lib.hid hr
  clear hE hr
  go_enter Try.func49, Try.ntmps49
  go_wp2_with (first
    | (go_at_call 66; refine (refFrame_v pg wd _ _ HR.out).mono ?_; rintro e w1 ⟨rfl, hb⟩; have hBB := rem_first hb; clear hb; obtain ⟨⟨q0, q1⟩, q2, q3, q4⟩ := rem_boxes hBB; have q7 := rem_lt hBB; have HG := Lib.hid (rem_row hBB))
    | (refine wpList_store_row rfl 29 (.tmp 6) (.tmp 14) rfl (w.heap.size + 1 + 1) #[.slice none 0 0, .slice none 0 0, .slice none 0 0] rfl rfl 29 _ HG.out info29' rfl (sl3_one _ _ _ _ _ _ _ _ _) ?_))
  refine bodyPost_ret (results_ctt rfl _ _ (w.heap.size + 1 + 1) 29 #[.slice none 0 0, .slice none 0 0, .slice none 0 0] (0, 0) _ rfl (setRow_block _ _ _ _ _ _ HG.out) Try.underlying29 rfl info29') rfl ?_
  exact rem_err w _ pg wd nd key 2 HE.out (by decide) (below_setRow (rem_below hBB) (by omega) _)

theorem refRemove_unshaped (pg wd : Int) (A0 A1 A2 : Option Addr) (c0 c1 c2 : Nat) (nd : NodeD) (key : ByteArray) (w : World) (hN : RdN w A0 c0 A1 c1 A2 c2 nd) (hr : right pg wd = true) (hl : leafB pg wd nd = false) :
    Calls Try.prog 49 #[vF pg wd, vN A0 c0 A1 c1 A2 c2 nd, .string key] w fun e w' => RemPost pg wd nd key w e w' := by
  have hE : remE pg wd nd = 80 := by simp [remE, hr, hl]
  have HE := Lib.hid hE
  have HR := Lib.hid hr
  have HL := Lib.hid hl
  have HN := Lib.hid hN
  clear hE hr hl hN
  go_enter Try.func49, Try.ntmps49
  go_wp2_with (first
    | (go_at_call 66; refine (refFrame_v pg wd _ _ HR.out).mono ?_; rintro e w1 ⟨rfl, hb⟩; have hBB := rem_first hb; clear hb; obtain ⟨⟨q0, q1⟩, q2, q3, q4⟩ := rem_boxes hBB; have q7 := rem_lt hBB)
    | (go_at_call 67; refine (refLeaf_v pg wd A0 A1 A2 c0 c1 c2 nd _ (HN.out.rem hBB) _ HL.out).mono ?_; rintro e w2 ⟨rfl, hb⟩; have hBB2 := rem_next hBB hb; clear hb q0 q1 q2 q3 q4 q7 hBB; have q7 := rem_lt hBB2; have HG := Lib.hid (rem_row hBB2))
    | (refine wpList_store_row rfl 29 (.tmp 6) (.tmp 19) rfl (w.heap.size + 1 + 1) #[.slice none 0 0, .slice none 0 0, .slice none 0 0] rfl rfl 29 _ HG.out info29' rfl (sl3_one _ _ _ _ _ _ _ _ _) ?_))
  refine bodyPost_ret (results_ctt rfl _ _ (w.heap.size + 1 + 1) 29 #[.slice none 0 0, .slice none 0 0, .slice none 0 0] (0, 0) _ rfl (setRow_block _ _ _ _ _ _ HG.out) Try.underlying29 rfl info29') rfl ?_
  exact rem_err w _ pg wd nd key 80 HE.out (by decide) (below_setRow (rem_below hBB2) (by omega) _)

theorem refRemove_ok (pg wd : Int) (A0 A1 A2 : Option Addr) (c0 c1 c2 : Nat) (nd : NodeD) (key : ByteArray) (w : World) (hN : RdN w A0 c0 A1 c1 A2 c2 nd) (hr : right pg wd = true) (hl : leafB pg wd nd = true) :
    Calls Try.prog 49 #[vF pg wd, vN A0 c0 A1 c1 A2 c2 nd, .string key] w fun e w' => RemPost pg wd nd key w e w' := by
  have hE : remE pg wd nd = 0 := by simp [remE, hr, hl]
  have HE := Lib.hid hE
  have HR := Lib.hid hr
  have HL := Lib.hid hl
  have HN := Lib.hid hN
  have hwb := (wo_find key nd.pairs (leaf_up hl)).2
  have HB := Lib.hid hwb
  clear hE hr hl hN hwb
  go_enter Try.func49, Try.ntmps49
  go_wp2_with (first
    | (go_at_call 66; refine (refFrame_v pg wd _ _ HR.out).mono ?_; rintro e w1 ⟨rfl, hb⟩; have hBB := rem_first hb; clear hb; obtain ⟨⟨q0, q1⟩, q2, q3, q4⟩ := rem_boxes hBB; have q7 := rem_lt hBB)
    | (go_at_call 67; refine (refLeaf_v pg wd A0 A1 A2 c0 c1 c2 nd _ (HN.out.rem hBB) _ HL.out).mono ?_; rintro e w2 ⟨rfl, hb⟩; have hBB2 := rem_next hBB hb; clear hb q0 q1 q2 q3 q4 q7 hBB; obtain ⟨⟨q0, q1⟩, q2, q3, q4⟩ := rem_boxes hBB2; have q7 := rem_lt hBB2)
    | (go_at_call 68; refine (without_c A0 A1 A2 c0 c1 c2 nd key _ (HN.out.rem hBB2)).mono ?_; rintro e w3 ⟨B0, d0, rfl, hown, hb⟩; have hBB3 := rem_next hBB2 hb; clear hb q0 q1 q2 q3 q4; have q8 := rem_lt hBB3; have HG := Lib.hid ((Below.heap_alloc w3 (.cells #[.slice B0 (wo key nd.pairs).length d0, .slice none 0 0, .slice none 0 0] 29) _ q8).trans (rem_row hBB3)); have HO := Lib.hid hown; clear hown hBB2)
    | (refine wpList_store_row rfl 29 (.tmp 6) (.tmp 26) rfl (w.heap.size + 1 + 1) #[.slice B0 (wo key nd.pairs).length d0, .slice none 0 0, .slice none 0 0] rfl rfl 29 _ HG.out info29' rfl (sl3_one _ _ _ _ _ _ _ _ _) ?_))
  refine bodyPost_ret (results_ctt rfl _ _ (w.heap.size + 1 + 1) 29 #[.slice B0 (wo key nd.pairs).length d0, .slice none 0 0, .slice none 0 0] (0, 0) _ rfl (setRow_block _ _ _ _ _ _ HG.out) Try.underlying29 rfl info29') rfl ?_
  exact rem_fin w _ pg wd nd key B0 none none d0 0 0 HE.out _ HB.out.symm (below_setRow (rem_below (rem_next hBB3 ((Below.refl _ _).alloc (Nat.le_refl _) _))) (by omega) _) (((HO.out.below ((Below.refl _ _).alloc (Nat.le_refl _) _)).setRow _ _ (by omega)).wide (by omega) (by simp [World.setRow]))

theorem refRemove_c (pg wd : Int) (A0 A1 A2 : Option Addr) (c0 c1 c2 : Nat) (nd : NodeD) (key : ByteArray) (w : World) (hN : RdN w A0 c0 A1 c1 A2 c2 nd) :
    Calls Try.prog 49 #[vF pg wd, vN A0 c0 A1 c1 A2 c2 nd, .string key] w fun e w' => RemPost pg wd nd key w e w' := by
  cases hr : right pg wd with
  | false => exact refRemove_wrong pg wd A0 A1 A2 c0 c1 c2 nd key w hr
  | true =>
    cases hl : leafB pg wd nd with
    | false => exact refRemove_unshaped pg wd A0 A1 A2 c0 c1 c2 nd key w hN hr hl
    | true => exact refRemove_ok pg wd A0 A1 A2 c0 c1 c2 nd key w hN hr hl

end Go.Proofs.Ytajkoeodabmgeaa
end
