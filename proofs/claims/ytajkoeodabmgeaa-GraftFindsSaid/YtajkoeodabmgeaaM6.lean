import Derived.Test.YtajkoeodabmgeaaM5
namespace Go.Proofs.Ytajkoeodabmgeaa
open Go.RowKit
set_option maxHeartbeats 2000000
set_option maxRecDepth 100000

def moreP : PairD := ⟨⟨#[109, 111, 114, 101]⟩, ⟨#[]⟩⟩
def moreS : ByteArray := ⟨#[109, 111, 114, 101]⟩
def moreK : KidD := ⟨98, List.replicate 32 0⟩
def overK : KidD := ⟨99, List.replicate 32 0⟩

theorem overK_size : overK.cells.toArray.size = 33 := by kernel_rfl
theorem overK_one : overK.cells.toArray.all (·.oneCell') = true := by kernel_rfl

theorem overK_info : (Try.prog.info? 85).map (·.size) = some overK.cells.toArray.size := by rw [overK_size]; exact info85

theorem spoil_store {ops : Array Oper} {rest : List Oper} {op : Oper} {a : Act} {W : World} {Q : Exit → Act → World → Prop} (b o : Nat) (hth : Hid (W.there b o overK.cells.toArray.size)) (hgd : op.guard = none) (ho : op.op = .store 85 (.tmp 41) (.tmp 40))
    (hx : a.eval (.tmp 41) = .pointer (some ⟨b, o, none⟩)) (hy : a.eval (.tmp 40) = .agg overK.cells.toArray)
    (h : wpList Try.prog ops Q rest (a.put op.dst undef) (W.setCells b o overK.cells)) : wpList Try.prog ops Q (op :: rest) a W :=
  wpList_store_mid hgd 85 (.tmp 41) (.tmp 40) ho b o overK.cells.toArray hx hy hth overK_info overK_one h

theorem one_pair' (w : World) (p : PairD) (g : Nat) (hg : g = w.heap.size) : Rd (w.alloc (.cells #[.string p.k, .string p.v] 31)) 2 (some ⟨g, 0, none⟩) 1 (pcells [p]) := by
  subst hg; exact one_pair w p

theorem spoil_c (A0 A1 A2 : Option Addr) (c0 c1 c2 : Nat) (nd : NodeD) (w : World) (lo hi : Nat) (hN : OwN w lo hi A0 c0 A1 c1 A2 c2 nd) (hR : Room 6 nd) (hlo : lo ≤ w.heap.size) :
    Calls Try.prog 25 #[vN A0 c0 A1 c1 A2 c2 nd] w fun e w' => (∃ r, e = .returned r) ∧ Kept (fun k => lo ≤ k ∧ k < hi) w w' := by
  obtain ⟨i0, hi0, hz0, hz1, hz2⟩ := info_parts info31
  obtain ⟨j0, hj, hy0, hy1, hy2⟩ := info_parts info9
  obtain ⟨k0, hik, hx0, hx1, hx2⟩ := info_parts info85'
  have HX0 := Lib.hid hx0
  clear hx0
  have HR0 : Hid (∀ k, k < 6 → (nd.pairs.length + k + 1) * 32 ≤ 140737488355328) := fun k hk => Nat.le_trans (Nat.mul_le_mul_right 32 (by omega : nd.pairs.length + k + 1 ≤ nd.pairs.length + 6)) hR.p
  have HR1 : Hid (∀ k, k < 6 → (nd.seps.length + k + 1) * 16 ≤ 140737488355328) := fun k hk => Nat.le_trans (Nat.mul_le_mul_right 16 (by omega : nd.seps.length + k + 1 ≤ nd.seps.length + 6)) hR.s
  have HR2 : Hid (∀ k, k < 6 → (nd.kids.length + k + 1) * 36 ≤ 140737488355328) := fun k hk => Nat.le_trans (Nat.mul_le_mul_right 36 (by omega : nd.kids.length + k + 1 ≤ nd.kids.length + 6)) hR.k
  have hp := hN.hp
  have hs := hN.hs
  have hk := hN.hk
  have hL0 : LS (fun k => lo ≤ k ∧ k < hi) w (w.alloc (.cells #[.slice A0 nd.pairs.length c0, .slice A1 nd.seps.length c1, .slice A2 nd.kids.length c2] 29)) lo w.heap.size (.slice A0 nd.pairs.length c0) (.slice A1 nd.seps.length c1) (.slice A2 nd.kids.length c2)
      nd.pairs.length nd.seps.length nd.kids.length (pcells nd.pairs) (scells nd.seps) (kcells nd.kids) :=
    ⟨heap_alloc_new _ _, hN.pairs.alloc _, hN.seps.alloc _, hN.kids.alloc _, by simp; omega, (Kept.refl _ _).alloc _, fun k hk => .inl ⟨(hN.pairs.lt k hk).1, hN.u0 k hk⟩, fun k hk => .inl ⟨(hN.seps.lt k hk).1, hN.u1 k hk⟩, fun k hk => .inl ⟨(hN.kids.lt k hk).1, hN.u2 k hk⟩, .inr (Nat.le_refl _)⟩
  have HL0 := Lib.hid hL0
  clear hN hR hL0
  go_enter Try.func25, Try.ntmps25
  go_wp2
  go_loopw [3] (fun i wr => ∃ k : Nat, k ≤ nd.pairs.length ∧ i = .int .i64 k ∧ (∃ xs0 xs1 xs2, Hid (LS (fun k => lo ≤ k ∧ k < hi) w wr lo w.heap.size (.slice A0 nd.pairs.length c0) (.slice A1 nd.seps.length c1) (.slice A2 nd.kids.length c2) nd.pairs.length nd.seps.length nd.kids.length xs0 xs1 xs2))) (fun i _ => nd.pairs.length - (intOf i).toNat)
  case atStart => exact ⟨0, Nat.zero_le _, rfl, _, _, _, HL0⟩
  case round =>
    clear HL0
    obtain ⟨k, hkk, rfl, xs0, xs1, xs2, HL⟩ := hrel
    obtain ⟨⟨q0, q1, q2⟩, q3, q4, q5⟩ := box_facts HL.out.box
    by_cases hlt : k < nd.pairs.length
    · obtain ⟨b, rfl⟩ := own_form HL.out.r0 (by omega)
      have hth := own_there HL.out.r0 (k * 2) 2 (by omega)
      obtain ⟨v0, t0⟩ := Option.isSome_iff_exists.1 (hth 0 (by omega)).1
      obtain ⟨v1, t1⟩ := Option.isSome_iff_exists.1 (hth 1 (by omega)).1
      have t2 := (hth 0 (by omega)).2
      have t3 := (hth 1 (by omega)).2
      have hki : (k : Int) < nd.pairs.length := by omega
      simp only [Nat.add_zero] at t0 t2
      clear hth
      go_wp2
      go_roundw
      case rel => exact ⟨k + 1, by omega, by go_num, _, _, _, (HL.out.set0 (k * 2) _).set0 (k * 2 + 1) _⟩
      case measure => simp [intOf]; omega
    · have hlt' : ¬ ((k : Int) < nd.pairs.length) := by omega
      go_wp2
      clear q0 q1 q2 q3 q4 q5
      obtain ⟨wa, rfl⟩ : ∃ wa : World, wa = wr := ⟨_, rfl⟩
      go_loopw [4] (fun i wr => ∃ k : Nat, k ≤ nd.seps.length ∧ i = .int .i64 k ∧ (∃ xs0 xs1 xs2, Hid (LS (fun k => lo ≤ k ∧ k < hi) w wr lo w.heap.size (.slice A0 nd.pairs.length c0) (.slice A1 nd.seps.length c1) (.slice A2 nd.kids.length c2) nd.pairs.length nd.seps.length nd.kids.length xs0 xs1 xs2))) (fun i _ => nd.seps.length - (intOf i).toNat)
      case atStart => exact ⟨0, Nat.zero_le _, rfl, _, _, _, HL⟩
      case round =>
        clear HL
        obtain ⟨k, hkk, rfl, xs0, xs1, xs2, HL⟩ := hrel
        obtain ⟨⟨q0, q1, q2⟩, q3, q4, q5⟩ := box_facts HL.out.box
        by_cases hlt : k < nd.seps.length
        · obtain ⟨b, rfl⟩ := own_form HL.out.r1 (by omega)
          have hth := own_there HL.out.r1 k 1 (by omega)
          obtain ⟨v0, t0⟩ := Option.isSome_iff_exists.1 (hth 0 (by omega)).1
          have t2 := (hth 0 (by omega)).2
          have hki : (k : Int) < nd.seps.length := by omega
          simp only [Nat.add_zero] at t0 t2
          clear hth
          go_wp2
          go_roundw
          case rel => exact ⟨k + 1, by omega, by go_num, _, _, _, HL.out.set1 k _⟩
          case measure => simp [intOf]; omega
        · have hlt' : ¬ ((k : Int) < nd.seps.length) := by omega
          go_wp2
          clear q0 q1 q2 q3 q4 q5
          obtain ⟨wb, rfl⟩ : ∃ wb : World, wb = wr := ⟨_, rfl⟩
          go_loopw [5] (fun i wr => ∃ k : Nat, k ≤ nd.kids.length ∧ i = .int .i64 k ∧ (∃ xs0 xs1 xs2, Hid (LS (fun k => lo ≤ k ∧ k < hi) w wr lo w.heap.size (.slice A0 nd.pairs.length c0) (.slice A1 nd.seps.length c1) (.slice A2 nd.kids.length c2) nd.pairs.length nd.seps.length nd.kids.length xs0 xs1 xs2))) (fun i _ => nd.kids.length - (intOf i).toNat)
          case atStart => exact ⟨0, Nat.zero_le _, rfl, _, _, _, HL⟩
          case round =>
            clear HL
            obtain ⟨k, hkk, rfl, xs0, xs1, xs2, HL⟩ := hrel
            obtain ⟨⟨q0, q1, q2⟩, q3, q4, q5⟩ := box_facts HL.out.box
            by_cases hlt : k < nd.kids.length
            · obtain ⟨b, rfl⟩ := own_form HL.out.r2 (by omega)
              have hth : Hid (wr.there b (k * 33) overK.cells.toArray.size) := Lib.hid (by rw [overK_size]; exact own_there HL.out.r2 (k * 33) 33 (by omega))
              have hki : (k : Int) < nd.kids.length := by omega
              obtain ⟨ys, HL2⟩ := LS.set2s overK.cells (k * 33) _ _ HL.out
              have HL3 := Lib.hid HL2
              clear HL2
              go_wp2_with (first
                | (refine spoil_store b (k * 33) hth rfl rfl rfl rfl ?_; clear hth))
              go_roundw
              case rel => exact ⟨k + 1, by omega, by go_num, _, _, _, HL3⟩
              case measure => simp [intOf]; omega
            · have hlt' : ¬ ((k : Int) < nd.kids.length) := by omega
              go_wp2
              clear q0 q1 q2 q3 q4 q5
              obtain ⟨wc, rfl⟩ : ∃ wc : World, wc = wr := ⟨_, rfl⟩
              go_loopw [6] (fun i wr => ∃ k : Nat, k ≤ 6 ∧ i = .int .i64 k ∧ (∃ B0 d0 B1 d1 B2 d2 xs0 xs1 xs2, Hid (LS (fun k => lo ≤ k ∧ k < hi) w wr lo w.heap.size (.slice B0 (nd.pairs.length + k) d0) (.slice B1 (nd.seps.length + k) d1) (.slice B2 (nd.kids.length + k) d2) (nd.pairs.length + k) (nd.seps.length + k) (nd.kids.length + k) xs0 xs1 xs2))) (fun i _ => 6 - (intOf i).toNat)
              case atStart => exact ⟨0, by omega, rfl, _, _, _, _, _, _, _, _, _, HL⟩
              case round =>
                clear HL
                obtain ⟨k, hkk, rfl, B0, d0, B1, d1, B2, d2, xs0, xs1, xs2, HL⟩ := hrel
                obtain ⟨⟨q0, q1, q2⟩, q3, q4, q5⟩ := box_facts HL.out.box
                by_cases hlt : k < 6
                · have HA0 := Lib.hid (HL.out.alloc (.cells #[.string ⟨#[109, 111, 114, 101]⟩, .string ⟨#[]⟩] 31))
                  go_wp2_with (first
                    | (at_builtin; refine wpList_append_rd rfl (.tmp 47) (.tmp 49) 25 rfl lo 31 Try.underlying25 hi0 hz0 hz1 hz2 rfl (by decide) rfl HA0.out.r0 rfl (one_pair' _ moreP _ (by simp)) (pc1 [moreP]) (HR0.out k hlt) (by decide) HA0.out.hb ?_; intro v1 w2 hown hg hx; clear q0 q1 q2 q3 q4 q5; obtain ⟨E0, f0, rfl, _, _⟩ := own_rd hown; have HA1 := Lib.hid ((HA0.out.app0 hown hg hx.1).alloc (.cells #[.string ⟨#[109, 111, 114, 101]⟩] 9)); obtain ⟨⟨q0, q1, q2⟩, q3, q4, q5⟩ := box_facts (HA0.out.mid0 hg); clear hown hg hx HA0)
                    | (at_builtin; refine wpList_append_rd rfl (.tmp 53) (.tmp 54) 26 rfl lo 9 Try.underlying26 hj hy0 hy1 hy2 rfl (by decide) rfl HA1.out.r1 rfl (one_text _ moreS _ (by simp)) (sc1 [moreS]) (HR1.out k hlt) (by decide) HA1.out.hb ?_; intro v2 w3 hown hg hx; clear q0 q1 q2 q3 q4 q5; obtain ⟨E1, f1, rfl, _, _⟩ := own_rd hown; have HA2 := Lib.hid ((HA1.out.app1 hown hg hx.1).alloc (.cells moreK.cells.toArray 85)); obtain ⟨⟨q0, q1, q2⟩, q3, q4, q5⟩ := box_facts (HA1.out.mid1 hg); clear hown hg hx HA1)
                    | (at_builtin; refine wpList_append_rd rfl (.tmp 58) (.tmp 60) 27 rfl lo 85 Try.underlying27 hik HX0.out hx1 hx2 (by kernel_rfl) (by decide) rfl HA2.out.r2 rfl (one_kid _ moreK rfl _ (by simp)) (kc1 [moreK]) (HR2.out k hlt) (by decide) HA2.out.hb ?_; intro v3 w4 hown hg hx; clear q0 q1 q2 q3 q4 q5; obtain ⟨E2, f2, rfl, _, _⟩ := own_rd hown; have HA3 := Lib.hid (HA2.out.app2 hown hg hx.1); obtain ⟨⟨q0, q1, q2⟩, q3, q4, q5⟩ := box_facts (HA2.out.mid2 hg); clear hown hg hx HA2))
                  go_roundw
                  case rel => exact ⟨k + 1, by omega, by go_num, E0, f0, E1, f1, E2, f2, _, _, _, HA3⟩
                  case measure => simp [intOf]; omega
                · have hlt' : ¬ ((k : Int) < 6) := by omega
                  obtain rfl : k = 6 := by omega
                  go_wp2
                  go_ret
                  exact ⟨⟨_, rfl⟩, HL.out.kp⟩

end Go.Proofs.Ytajkoeodabmgeaa
