import Derived.Test.YtajkoeodabmgeaaB7
namespace Go.Proofs.Ytajkoeodabmgeaa
open Go.RowKit
set_option maxHeartbeats 2000000
set_option maxRecDepth 100000
attribute [local go_sem] grow_cell grow_frozen grow_size

def tx (s : ByteArray) : Nat := cnt s.size + s.size
def psz (p : PairD) : Nat := tx p.k + tx p.v
def sizeD (wd : Nat) (nd : NodeD) : Nat :=
  if leafD nd then 1 + cnt nd.pairs.length + (nd.pairs.map psz).sum
  else 1 + cnt nd.kids.length + nd.kids.length * (4 + wd) + (nd.seps.map tx).sum

theorem text_b (s : ByteArray) (w : World) (hn : s.size ≤ 140737488355328) :
    Calls Try.prog 104 #[.string s] w fun e w' => e = .returned (.int .i64 (tx s)) ∧ Below w.heap.size w w' :=
  (text_c s w hn).mono fun _ _ ⟨he, hw⟩ => ⟨he, by subst hw; exact Below.refl _ _⟩

theorem tx_le (s : ByteArray) : tx s ≤ 2 * s.size + 1 := by have := cnt_le s.size; unfold tx; omega

theorem sum_take {α : Type} (f : α → Nat) (l : List α) (k : Nat) (hk : k < l.length) : ((l.take (k + 1)).map f).sum = ((l.take k).map f).sum + f l[k] := by
  rw [List.take_succ_eq_append_getElem hk, List.map_append, List.sum_append]; simp
theorem sum_le {α : Type} (f : α → Nat) (B : Nat) (l : List α) (h : ∀ x ∈ l, f x ≤ B) : (l.map f).sum ≤ l.length * B := by
  induction l with
  | nil => simp
  | cons x l ih =>
    have h1 := h x (by simp)
    have h2 := ih (fun y hy => h y (by simp [hy]))
    simp only [List.map_cons, List.sum_cons, List.length_cons, Nat.succ_mul]
    omega
theorem sum_take_le {α : Type} (f : α → Nat) (B : Nat) (l : List α) (k : Nat) (h : ∀ x ∈ l, f x ≤ B) (hk : k ≤ l.length) : ((l.take k).map f).sum ≤ k * B := by
  have := sum_le f B (l.take k) (fun x hx => h x (List.mem_of_mem_take hx))
  rwa [List.length_take, Nat.min_eq_left hk] at this

theorem size_leaf (pg : Int) (wd : Nat) (A0 A1 A2 : Option Addr) (c0 c1 c2 : Nat) (nd : NodeD) (w : World) (hr : right pg wd = true) (hN : RdN w A0 c0 A1 c1 A2 c2 nd) (hlf : leafD nd) (hsh : shaped pg wd nd) :
    Calls Try.prog 82 #[vF pg wd, .agg #[.slice A0 nd.pairs.length c0, .slice A1 nd.seps.length c1, .slice A2 nd.kids.length c2]] w fun e w' => e = .returned (.int .i64 (sizeD wd nd)) ∧ Below w.heap.size w w' := by
  obtain ⟨⟨h0, h1⟩, h2, h3⟩ := right_spec hr
  have hlf' : decide (nd.seps.length = 0 ∧ nd.kids.length = 0) = true := decide_eq_true hlf
  have HL' := Lib.hid hlf'
  have HL := Lib.hid hlf
  have hpl := hN.hp
  have hkb : ∀ p ∈ nd.pairs, p.k.size ≤ 512 ∧ p.v.size ≤ 1024 := by
    simp only [shaped, hlf, if_true] at hsh
    intro p hp
    obtain ⟨i, hi, e⟩ := List.getElem_of_mem hp
    have a := (hsh.1 i (by simpa using hi)).1.2
    have b : ¬ pg / 8 < p.v.size := fun h => hsh.2 ⟨p, hp, h⟩
    simp only [List.getElem_map, e] at a
    omega
  have hpb : ∀ p ∈ nd.pairs, psz p ≤ 3074 := fun p hp => by
    have := hkb p hp; have := tx_le p.k; have := tx_le p.v; unfold psz; omega
  have HKB := Lib.hid hkb
  have HPB := Lib.hid hpb
  have hcl := cnt_le nd.pairs.length
  clear hlf' hlf hsh hkb hpb hr
  go_enter Try.func82, Try.ntmps82
  go_wp2_with (first
    | (go_at_call 93; refine (isLeaf_c _ _ _ _ _ _ _ _ _ _ true HL'.out).mono ?_; rintro e w1 ⟨rfl, hb⟩; have hBB : Below (w.heap.size + 1 + 1) ((w.alloc (.cells #[.int .i64 pg, .int .i64 (wd : Int)] 24)).alloc (.cells #[.slice A0 nd.pairs.length c0, .slice A1 nd.seps.length c1, .slice A2 nd.kids.length c2] 29)) w1 := (hb.mono (by simp)); clear hb; obtain ⟨⟨q0, q1⟩, ⟨q2, q3, q4⟩, q5⟩ := two_boxes hBB)
    | (go_at_call 103; refine (count_c nd.pairs.length _ (by omega)).mono ?_; rintro e w1 ⟨rfl, rfl⟩))
  have hRp : Rd w1 2 A0 nd.pairs.length (pcells nd.pairs) := (hN.pairs.below (((Below.refl _ _).alloc (Nat.le_refl _) _).alloc (by simp) _)).below (hBB.mono (by simp))
  have hbw : Below w.heap.size w w1 := below_aa (hBB.mono (by simp))
  clear hBB q0 q1 q2 q3 q4 q5
  go_loopw [5, 21] (fun s i wr => ∃ k : Nat, k ≤ nd.pairs.length ∧ i = .int .i64 k ∧ s = .int .i64 ((1 + cnt nd.pairs.length + ((nd.pairs.take k).map psz).sum : Nat) : Int) ∧ Below w1.heap.size w1 wr) (fun _ i _ => nd.pairs.length - (intOf i).toNat)
  case atStart => exact ⟨0, Nat.zero_le _, rfl, by simp, Below.refl _ _⟩
  case round =>
    obtain ⟨k, hk, rfl, rfl, hB⟩ := hrel
    have hRk := hRp.below hB
    have hs := sum_take_le psz 3074 nd.pairs k HPB.out hk
    by_cases hlt : k < nd.pairs.length
    · obtain ⟨ab, ao, rfl, hk0, hk1⟩ := pairs_at hRk hlt
      have hb1 := HKB.out _ (List.getElem_mem hlt)
      obtain ⟨hb2, hb3⟩ := hb1
      have hst := Lib.hid (sum_take psz nd.pairs k hlt)
      have ht1 := tx_le nd.pairs[k].k
      have ht2 := tx_le nd.pairs[k].v
      generalize hS : ((nd.pairs.take k).map psz).sum = S at *
      have HS := Lib.hid hS
      clear hS hRk hRp
      go_wp2
      refine wp_region_grow (by kernel_rfl) (by kernel_rfl) ?_
      repeat (any_goals (first | go_big_quiet_step ((go_at_call 104; exact quiet_below (text_b _ _ (by omega)))) | quiet_step ((go_at_call 104; exact quiet_below (text_b _ _ (by omega))))))
      refine wpQuiet_nil ?_
      intro w2 hb
      go_wp2
      go_roundw
      case rel => exact ⟨k + 1, by omega, by go_num, by rw [hst.out]; congr 1; simp only [psz]; omega, below_s1 hB (Nat.le_trans (Nat.le_refl _) hB.size) hb⟩
      case measure => simp [intOf]; omega
    · go_wp2
      go_ret
      exact ⟨ret_eq (show Value.int IntKind.i64 ((1 + cnt nd.pairs.length + ((nd.pairs.take k).map psz).sum : Nat) : Int) = _ by
        rw [show k = nd.pairs.length by omega, List.take_length, sizeD, if_pos HL.out]), below_s0 hbw (by have := hbw.size; omega) hB⟩

theorem size_branch (pg : Int) (wd : Nat) (A0 A1 A2 : Option Addr) (c0 c1 c2 : Nat) (nd : NodeD) (w : World) (hr : right pg wd = true) (hN : RdN w A0 c0 A1 c1 A2 c2 nd) (hlf : ¬ leafD nd) (hsh : shaped pg wd nd) :
    Calls Try.prog 82 #[vF pg wd, .agg #[.slice A0 nd.pairs.length c0, .slice A1 nd.seps.length c1, .slice A2 nd.kids.length c2]] w fun e w' => e = .returned (.int .i64 (sizeD wd nd)) ∧ Below w.heap.size w w' := by
  obtain ⟨⟨h0, h1⟩, h2, h3⟩ := right_spec hr
  have hlf' : decide (nd.seps.length = 0 ∧ nd.kids.length = 0) = false := decide_eq_false hlf
  have HL' := Lib.hid hlf'
  have HL := Lib.hid hlf
  have hkl := hN.hk
  have hsl := hN.hs
  have hsb : ∀ s ∈ nd.seps, s.size ≤ 512 := by
    simp only [shaped, hlf, if_false] at hsh
    intro p hp
    obtain ⟨i, hi, e⟩ := List.getElem_of_mem hp
    have a := (hsh.2.2.2.2 i (by simpa using hi)).1.2
    rw [e] at a
    omega
  have htb : ∀ s ∈ nd.seps, tx s ≤ 1025 := fun p hp => by
    have := hsb p hp; have := tx_le p; omega
  have HSB := Lib.hid hsb
  have HTB := Lib.hid htb
  have hcl := cnt_le nd.kids.length
  have hmul : (nd.kids.length : Int) * (4 + (wd : Int)) ≤ 140737488355328 := by
    have a : (nd.kids.length : Int) * (4 + (wd : Int)) ≤ (nd.kids.length : Int) * 36 := Int.mul_le_mul_of_nonneg_left (by omega) (by omega)
    omega
  have hmul0 : 0 ≤ (nd.kids.length : Int) * (4 + (wd : Int)) := Int.mul_nonneg (by omega) (by omega)
  generalize hM : (nd.kids.length : Int) * (4 + (wd : Int)) = M at hmul hmul0
  have HM := Lib.hid hM
  have hwr : IntKind.i64.wrap ((nd.kids.length : Int) * (4 + (wd : Int))) = M := by rw [hM]; exact IntWalk.i64_in _ (by omega)
  have HWR := Lib.hid hwr
  clear hlf' hlf hsh hsb htb hr hM hwr
  go_enter Try.func82, Try.ntmps82
  go_wp2_with (first
    | (go_at_call 93; refine (isLeaf_c _ _ _ _ _ _ _ _ _ _ false HL'.out).mono ?_; rintro e w1 ⟨rfl, hb⟩; have hBB : Below (w.heap.size + 1 + 1) ((w.alloc (.cells #[.int .i64 pg, .int .i64 (wd : Int)] 24)).alloc (.cells #[.slice A0 nd.pairs.length c0, .slice A1 nd.seps.length c1, .slice A2 nd.kids.length c2] 29)) w1 := (hb.mono (by simp)); clear hb; obtain ⟨⟨q0, q1⟩, ⟨q2, q3, q4⟩, q5⟩ := two_boxes hBB))
  have q6 : w.heap.size < w1.heap.size := by omega
  refine wp_region_grow (by kernel_rfl) (by kernel_rfl) ?_
  repeat (any_goals (first | go_big_quiet_step ((go_at_call 103; exact quiet_below ((count_c nd.kids.length _ (by omega)).mono fun _ _ ⟨he, hw⟩ => ⟨he, by subst hw; exact Below.refl _ _⟩))) | quiet_step ((go_at_call 103; exact quiet_below ((count_c nd.kids.length _ (by omega)).mono fun _ _ ⟨he, hw⟩ => ⟨he, by subst hw; exact Below.refl _ _⟩)))))
  refine wpQuiet_nil ?_
  intro w2 hb
  have ew : wrap64 (1 + (cnt nd.kids.length : Int) + wrap64 ((nd.kids.length : Int) * (4 + (wd : Int)))) = 1 + (cnt nd.kids.length : Int) + M := by rw [HM.out]; unfold wrap64; omega
  simp only [ew]
  have hBn := below_s0 hBB (by omega) hb
  clear hBB hb ew q0 q1 q2 q3 q4 q5 q6 HWR
  obtain ⟨⟨q0, q1⟩, ⟨q2, q3, q4⟩, q5⟩ := two_boxes hBn
  go_wp2
  have hRs : Rd w2 1 A1 nd.seps.length (scells nd.seps) := (hN.seps.below (((Below.refl _ _).alloc (Nat.le_refl _) _).alloc (by simp) _)).below (hBn.mono (by simp))
  have hbw : Below w.heap.size w w2 := below_aa (hBn.mono (by simp))
  clear hBn q0 q1 q2 q3 q4 q5
  go_loopw [8, 52] (fun s i wr => ∃ k : Nat, k ≤ nd.seps.length ∧ i = .int .i64 k ∧ s = .int .i64 (1 + (cnt nd.kids.length : Int) + M + ((nd.seps.take k).map tx).sum) ∧ Below w2.heap.size w2 wr) (fun _ i _ => nd.seps.length - (intOf i).toNat)
  case atStart => exact ⟨0, Nat.zero_le _, rfl, by simp, Below.refl _ _⟩
  case round =>
    obtain ⟨k, hk, rfl, rfl, hB⟩ := hrel
    have hRk := hRs.below hB
    have hs := sum_take_le tx 1025 nd.seps k HTB.out hk
    by_cases hlt : k < nd.seps.length
    · obtain ⟨ab, ao, rfl, hk0⟩ := seps_at hRk hlt
      have hb1 := HSB.out _ (List.getElem_mem hlt)
      have hst := Lib.hid (sum_take tx nd.seps k hlt)
      have ht1 := tx_le nd.seps[k]
      generalize hS : ((nd.seps.take k).map tx).sum = S at *
      have HS := Lib.hid hS
      clear hS hRk hRs
      go_wp2_with (go_at_call 104; refine (text_b _ _ (by omega)).mono ?_; rintro e w3 ⟨rfl, hb3⟩)
      go_roundw
      case rel => exact ⟨k + 1, by omega, by go_num, by rw [hst.out]; congr 1; omega, below_s0 hB hB.size hb3⟩
      case measure => simp [intOf]; omega
    · go_wp2
      go_ret
      exact ⟨ret_eq (show Value.int IntKind.i64 (1 + (cnt nd.kids.length : Int) + M + ((nd.seps.take k).map tx).sum) = _ by
        rw [show k = nd.seps.length by omega, List.take_length, sizeD, if_neg HL.out, ← HM.out]; congr 1), below_s0 hbw (by have := hbw.size; omega) hB⟩

theorem size_c (pg : Int) (wd : Nat) (A0 A1 A2 : Option Addr) (c0 c1 c2 : Nat) (nd : NodeD) (w : World) (hr : right pg wd = true) (hN : RdN w A0 c0 A1 c1 A2 c2 nd) (hsh : shaped pg wd nd) :
    Calls Try.prog 82 #[vF pg wd, .agg #[.slice A0 nd.pairs.length c0, .slice A1 nd.seps.length c1, .slice A2 nd.kids.length c2]] w fun e w' => e = .returned (.int .i64 (sizeD wd nd)) ∧ Below w.heap.size w w' := by
  by_cases h : leafD nd
  · exact size_leaf pg wd A0 A1 A2 c0 c1 c2 nd w hr hN h hsh
  · exact size_branch pg wd A0 A1 A2 c0 c1 c2 nd w hr hN h hsh

end Go.Proofs.Ytajkoeodabmgeaa
