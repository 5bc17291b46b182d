import Derived.Test.YtajkoeodabmgeaaM1
namespace Go.Proofs.Ytajkoeodabmgeaa
open Go.RowKit
set_option maxHeartbeats 2000000
set_option maxRecDepth 100000

def markP : PairD := ⟨⟨#[109, 97, 114, 107]⟩, ⟨#[]⟩⟩
def markS : ByteArray := ⟨#[109, 97, 114, 107]⟩
def markK : KidD := ⟨77, List.replicate 32 0⟩
/-- A node with marks behind its lists. -/
def longN (nd : NodeD) (k : Nat) : NodeD := ⟨nd.pairs ++ List.replicate k markP, nd.seps ++ List.replicate k markS, nd.kids ++ List.replicate k markK⟩

theorem one_text (w : World) (s : ByteArray) (g : Nat) (hg : g = w.heap.size) : Rd (w.alloc (.cells #[.string s] 9)) 1 (some ⟨g, 0, none⟩) 1 (scells [s]) := by
  subst hg
  refine ⟨by simp [scells_len], fun _ => ⟨w.heap.size, 0, rfl, fun j u hu => ?_⟩⟩
  rw [Nat.zero_add, cell_of_row _ _ j _ _ _ (heap_alloc_new w _), ← hu]
  simp [scells]
theorem one_kid (w : World) (k : KidD) (hk : k.sum.length = 32) (g : Nat) (hg : g = w.heap.size) : Rd (w.alloc (.cells k.cells.toArray 85)) 33 (some ⟨g, 0, none⟩) 1 (kcells [k]) := by
  subst hg
  refine ⟨by simp [kcells, KidD.cells, hk], fun _ => ⟨w.heap.size, 0, rfl, fun j u hu => ?_⟩⟩
  rw [Nat.zero_add, cell_of_row _ _ j _ _ _ (heap_alloc_new w _), ← hu]
  simp [kcells]

theorem long_p (nd : NodeD) (k : Nat) : pcells (longN nd k).pairs ++ pcells [markP] = pcells (longN nd (k + 1)).pairs := by
  simp [longN, List.replicate_succ', pcells_append]
theorem long_s (nd : NodeD) (k : Nat) : scells (longN nd k).seps ++ scells [markS] = scells (longN nd (k + 1)).seps := by
  simp [longN, List.replicate_succ', scells_append]
theorem long_k (nd : NodeD) (k : Nat) : kcells (longN nd k).kids ++ kcells [markK] = kcells (longN nd (k + 1)).kids := by
  simp [longN, List.replicate_succ', kcells_append]

/-- The lent node under way: k marks. -/
def LM (S : Nat → Prop) (W0 W : World) (base g : Nat) (nd : NodeD) (k : Nat) (B0 : Option Addr) (d0 : Nat) (B1 : Option Addr) (d1 : Nat) (B2 : Option Addr) (d2 : Nat) : Prop :=
  LS S W0 W base g (.slice B0 (nd.pairs.length + k) d0) (.slice B1 (nd.seps.length + k) d1) (.slice B2 (nd.kids.length + k) d2) (nd.pairs.length + k) (nd.seps.length + k) (nd.kids.length + k) (pcells (longN nd k).pairs) (scells (longN nd k).seps) (kcells (longN nd k).kids)

theorem lent_c (A0 A1 A2 : Option Addr) (c0 c1 c2 : Nat) (nd : NodeD) (w : World) (hN : RdN w A0 c0 A1 c1 A2 c2 nd) (hR : Room 4 nd) :
    Calls Try.prog 21 #[vN A0 c0 A1 c1 A2 c2 nd] w fun e w' =>
      ∃ B0 d0 B1 d1 B2 d2, e = .returned (vN B0 d0 B1 d1 B2 d2 nd) ∧ OwN w' w.heap.size w'.heap.size B0 d0 B1 d1 B2 d2 (longN nd 4) ∧ Below w.heap.size w w' := by
  obtain ⟨i0, hi, hz0, hz1, hz2⟩ := info_parts info31
  obtain ⟨j0, hj, hy0, hy1, hy2⟩ := info_parts info9
  obtain ⟨k0, hik, hx0, hx1, hx2⟩ := info_parts info85'
  have HX0 := Lib.hid hx0
  clear hx0
  have HN := Lib.hid hN
  have HR0 : Hid (∀ k, k < 4 → (nd.pairs.length + k + 1) * 32 ≤ 140737488355328) := fun k hk => Nat.le_trans (Nat.mul_le_mul_right 32 (by omega : nd.pairs.length + k + 1 ≤ nd.pairs.length + 4)) hR.p
  have HR1 : Hid (∀ k, k < 4 → (nd.seps.length + k + 1) * 16 ≤ 140737488355328) := fun k hk => Nat.le_trans (Nat.mul_le_mul_right 16 (by omega : nd.seps.length + k + 1 ≤ nd.seps.length + 4)) hR.s
  have HR2 : Hid (∀ k, k < 4 → (nd.kids.length + k + 1) * 36 ≤ 140737488355328) := fun k hk => Nat.le_trans (Nat.mul_le_mul_right 36 (by omega : nd.kids.length + k + 1 ≤ nd.kids.length + 4)) hR.k
  have HRR := Lib.hid hR
  clear hN hR
  go_enter Try.func21, Try.ntmps21
  go_wp2_with (first
    | (go_at_call 60; refine (copy_c A0 A1 A2 c0 c1 c2 nd _ (HN.out.below (cW_below rfl cW_start))).mono ?_; rintro e w1 ⟨B0, d0, B1, d1, B2, d2, rfl, hown, hb1⟩; have HO := Lib.hid hown; clear hown))
  have hS1 := (@cW_start w (.slice A0 nd.pairs.length c0) (.slice A1 nd.seps.length c1) (.slice A2 nd.kids.length c2)).step hb1
  have hL0 : LM (fun _ => False) (cW w (.slice A0 nd.pairs.length c0) (.slice A1 nd.seps.length c1) (.slice A2 nd.kids.length c2)) (w1.alloc (.cells #[.slice B0 nd.pairs.length d0, .slice B1 nd.seps.length d1, .slice B2 nd.kids.length d2] 29)) (w.heap.size + 1 + 1) w1.heap.size nd 0 B0 d0 B1 d1 B2 d2 := by
    have hz : (cW w (.slice A0 nd.pairs.length c0) (.slice A1 nd.seps.length c1) (.slice A2 nd.kids.length c2)).heap.size = w.heap.size + 1 + 1 := by simp [cW]
    have h := HO.out
    rw [hz] at h
    have hsz := hb1.size
    exact ⟨heap_alloc_new _ _, by simpa [longN] using h.pairs.alloc _, by simpa [longN] using h.seps.alloc _, by simpa [longN] using h.kids.alloc _, by rw [hz] at hsz; simp; omega, (Kept.of_below hb1).alloc _,
      fun k hk => .inr (hz ▸ (h.pairs.lt k (by simpa using hk)).1), fun k hk => .inr (hz ▸ (h.seps.lt k (by simpa using hk)).1), fun k hk => .inr (hz ▸ (h.kids.lt k (by simpa using hk)).1), .inr hsz⟩
  go_loopw [4] (fun i wr => ∃ k : Nat, k ≤ 4 ∧ i = .int .i64 k ∧ (∃ B0 d0 B1 d1 B2 d2, Hid (LM (fun _ => False) (cW w (.slice A0 nd.pairs.length c0) (.slice A1 nd.seps.length c1) (.slice A2 nd.kids.length c2)) wr (w.heap.size + 1 + 1) w1.heap.size nd k B0 d0 B1 d1 B2 d2))) (fun i _ => 4 - (intOf i).toNat)
  case atStart => exact ⟨0, by omega, rfl, ⟨B0, d0, B1, d1, B2, d2, hL0⟩⟩
  case round =>
    clear hL0 hS1 HO
    obtain ⟨k, hk, rfl, ⟨B0, d0, B1, d1, B2, d2, HL⟩⟩ := hrel
    have hL : LS _ _ _ _ _ _ _ _ _ _ _ _ _ _ := HL.out
    obtain ⟨⟨q0, q1, q2⟩, q3, q4, q5⟩ := box_facts hL.box
    have HL := Lib.hid hL
    clear hL
    by_cases hlt : k < 4
    · have HA0 := Lib.hid (HL.out.alloc (.cells #[.string ⟨#[109, 97, 114, 107]⟩, .string ⟨#[]⟩] 31))
      go_wp2_with (first
        | (at_builtin; refine wpList_append_rd rfl (.tmp 12) (.tmp 14) 25 rfl (w.heap.size + 1 + 1) 31 Try.underlying25 hi hz0 hz1 hz2 rfl (by decide) rfl HA0.out.r0 rfl (one_pair wr markP) (pc1 [markP]) (HR0.out k hlt) (by decide) HA0.out.hb ?_; intro v1 w2 hown hg hx; clear q0 q1 q2 q3 q4 q5; obtain ⟨E0, f0, rfl, _, _⟩ := own_rd hown; have HA1 := Lib.hid ((HA0.out.app0 hown hg hx.1).alloc (.cells #[.string ⟨#[109, 97, 114, 107]⟩] 9)); obtain ⟨⟨q0, q1, q2⟩, q3, q4, q5⟩ := box_facts (HA0.out.mid0 hg); clear hown hg hx HA0)
        | (at_builtin; refine wpList_append_rd rfl (.tmp 18) (.tmp 19) 26 rfl (w.heap.size + 1 + 1) 9 Try.underlying26 hj hy0 hy1 hy2 rfl (by decide) rfl HA1.out.r1 rfl (one_text _ markS _ (by simp)) (sc1 [markS]) (HR1.out k hlt) (by decide) HA1.out.hb ?_; intro v2 w3 hown hg hx; clear q0 q1 q2 q3 q4 q5; obtain ⟨E1, f1, rfl, _, _⟩ := own_rd hown; have HA2 := Lib.hid ((HA1.out.app1 hown hg hx.1).alloc (.cells markK.cells.toArray 85)); obtain ⟨⟨q0, q1, q2⟩, q3, q4, q5⟩ := box_facts (HA1.out.mid1 hg); clear hown hg hx HA1)
        | (at_builtin; refine wpList_append_rd rfl (.tmp 23) (.tmp 25) 27 rfl (w.heap.size + 1 + 1) 85 Try.underlying27 hik HX0.out hx1 hx2 (by kernel_rfl) (by decide) rfl HA2.out.r2 rfl (one_kid _ markK rfl _ (by simp)) (kc1 [markK]) (HR2.out k hlt) (by decide) HA2.out.hb ?_; intro v3 w4 hown hg hx; clear q0 q1 q2 q3 q4 q5; obtain ⟨E2, f2, rfl, _, _⟩ := own_rd hown; have HA3 := Lib.hid (HA2.out.app2 hown hg hx.1); obtain ⟨⟨q0, q1, q2⟩, q3, q4, q5⟩ := box_facts (HA2.out.mid2 hg); clear hown hg hx HA2))
      go_roundw
      case rel =>
        have h3 := HA3.out
        have e0 : pcells (longN nd k).pairs ++ pcells [markP] = _ := long_p nd k
        have e1 : scells (longN nd k).seps ++ scells [markS] = _ := long_s nd k
        have e2 : kcells (longN nd k).kids ++ kcells [markK] = _ := long_k nd k
        rw [e0, e1, e2] at h3
        exact ⟨k + 1, by omega, by go_num, ⟨E0, f0, E1, f1, E2, f2, h3⟩⟩
      case measure => simp [intOf]; omega
    · obtain rfl : k = 4 := by omega
      go_wp2
      have hL : LS _ _ _ _ _ _ _ _ _ _ _ _ _ _ := HL.out
      have hsz : w.heap.size + 1 + 1 ≤ w1.heap.size := by have := hb1.size; simpa [cW] using this
      have hbw : Below (w.heap.size + 1 + 1) (cW w (.slice A0 nd.pairs.length c0) (.slice A1 nd.seps.length c1) (.slice A2 nd.kids.length c2)) wr := hL.kp.below (by simp [cW]) (fun _ _ h => h)
      have hS1 : Box (w.heap.size + 1) 3 29 (cW w (.slice A0 nd.pairs.length c0) (.slice A1 nd.seps.length c1) (.slice A2 nd.kids.length c2)) wr := ⟨hbw.mono (by omega), _, (hbw.block _ (by omega)).trans (alloc2_at w _ _), rfl⟩
      have hg1 := hL.box
      have d0c : ((nd.pairs.length : Nat) : Int) ≤ d0 := by have := (own_rd' hL.r0).1; omega
      have d1c : ((nd.seps.length : Nat) : Int) ≤ d1 := by have := (own_rd' hL.r1).1; omega
      have d2c : ((nd.kids.length : Nat) : Int) ≤ d2 := by have := (own_rd' hL.r2).1; omega
      have HF : Hid (∀ W, (Box (w.heap.size + 1) 3 29 (cW w (.slice A0 nd.pairs.length c0) (.slice A1 nd.seps.length c1) (.slice A2 nd.kids.length c2)) W ∧ W.heap[w1.heap.size]? = some (.cells #[.slice B0 (nd.pairs.length + 4) d0, .slice B1 (nd.seps.length + 4) d1, .slice B2 (nd.kids.length + 4) d2] 29 (0, 0))) → (W.cell? ⟨w.heap.size, 0, none⟩ = some (.slice A0 nd.pairs.length c0) ∧ W.cell? ⟨w.heap.size, 1, none⟩ = some (.slice A1 nd.seps.length c1) ∧ W.cell? ⟨w.heap.size, 2, none⟩ = some (.slice A2 nd.kids.length c2)) ∧ (W.cell? ⟨w1.heap.size, 0, none⟩ = some (.slice B0 (nd.pairs.length + 4) d0) ∧ W.cell? ⟨w1.heap.size, 1, none⟩ = some (.slice B1 (nd.seps.length + 4) d1) ∧ W.cell? ⟨w1.heap.size, 2, none⟩ = some (.slice B2 (nd.kids.length + 4) d2))) :=
        fun W h => ⟨cW_cells h.1, (box_facts h.2).1⟩
      clear hL q0 q1 q2 q3 q4 q5
      refine wp_region_sched (S := fun W => Box (w.heap.size + 1) 3 29 (cW w (.slice A0 nd.pairs.length c0) (.slice A1 nd.seps.length c1) (.slice A2 nd.kids.length c2)) W ∧ W.heap[w1.heap.size]? = some (.cells #[.slice B0 (nd.pairs.length + 4) d0, .slice B1 (nd.seps.length + 4) d1, .slice B2 (nd.kids.length + 4) d2] 29 (0, 0)))
        [(0, true), (1, true), (2, true), (3, true), (4, true), (5, true), (6, true), (7, true), (8, true), (9, true), (10, true), (11, true), (12, true), (13, true), (14, true), (15, true), (16, true), (17, true), (18, true), (19, false)]
        (by kernel_rfl) (by kernel_rfl) (by kernel_rfl) (fun _ _ d _ _ h => by cases d <;> exact h) ⟨hS1.drew, hg1⟩ ?_
      repeat (apply sched_take; (exact rfl); rfl; (intro W hW; obtain ⟨⟨q0, q1, q2⟩, q3, q4, q5⟩ := HF.out W hW; go_simp; (try with_reducible rfl)); simp only [Act.put, List.setIfInBounds_toArray, List.set_cons_zero, List.set_cons_succ])
      apply sched_run; (exact rfl); rfl; intro K hK
      refine wp_store_box hS1.drew 29 (.tmp 2) (.tmp 46) rfl _ rfl rfl info29' rfl ?_ ?_
      · exact sl3_one _ _ _ _ _ _ _ _ _
      refine hK.out _ _ ⟨hS1.drew.setRow _ rfl, (setRow_other _ _ _ _ (by omega)).trans hg1⟩ (fun _ => ?_)
      clear hK K
      refine sched_done ?_
      go_wp2
      refine bodyPost_ret (results_cell_row rfl _ _ (w.heap.size + 1) 29 _ (0, 0) _ rfl (hS1.drew.2.setRow _ rfl).2 Try.underlying29 rfl info29') rfl ?_
      have hL : LS _ _ _ _ _ _ _ _ _ _ _ _ _ _ := HL.out
      have hR := HRR.out
      have hN := HN.out
      have e0 : (longN nd 4).pairs.length = nd.pairs.length + 4 := by simp [longN]
      have e1 : (longN nd 4).seps.length = nd.seps.length + 4 := by simp [longN]
      have e2 : (longN nd 4).kids.length = nd.kids.length + 4 := by simp [longN]
      have h0 : OwN wr.drew (w.heap.size + 1 + 1) wr.heap.size B0 d0 B1 d1 B2 d2 (longN nd 4) :=
        { pairs := by rw [e0]; exact hL.r0
          seps := by rw [e1]; exact hL.r1
          kids := by rw [e2]; exact hL.r2
          u0 := by rw [e0]; exact own_lt hL.r0
          u1 := by rw [e1]; exact own_lt hL.r1
          u2 := by rw [e2]; exact own_lt hL.r2
          hp := by rw [e0]; exact hR.p
          hs := by rw [e1]; exact hR.s
          hk := by rw [e2]; exact hR.k
          pk := fun p hp => by
            simp only [longN, List.mem_append, List.mem_replicate] at hp
            rcases hp with hp | ⟨_, rfl⟩
            · exact hN.pk p hp
            · exact ⟨by decide, by decide⟩
          sk := fun p hp => by
            simp only [longN, List.mem_append, List.mem_replicate] at hp
            rcases hp with hp | ⟨_, rfl⟩
            · exact hN.sk p hp
            · decide
          kk := fun p hp => by
            simp only [longN, List.mem_append, List.mem_replicate] at hp
            rcases hp with hp | ⟨_, rfl⟩
            · exact hN.kk p hp
            · rfl }
      exact ⟨B0, d0, B1, d1, B2, d2, rfl, (h0.setRow _ _ (by omega)).wide (by omega) (by simp [World.setRow]), cW_below rfl (hS1.drew.setRow _ rfl)⟩

end Go.Proofs.Ytajkoeodabmgeaa
