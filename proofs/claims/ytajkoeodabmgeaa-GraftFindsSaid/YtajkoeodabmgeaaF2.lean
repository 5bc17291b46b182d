import Derived.Test.YtajkoeodabmgeaaG0
namespace Go.Proofs.Ytajkoeodabmgeaa
open Go.RowKit
set_option maxHeartbeats 2000000
set_option maxRecDepth 100000

abbrev cW (w : World) (a b c : Value) : World := (w.alloc (.cells #[a, b, c] 29)).alloc (.cells #[.slice none 0 0, .slice none 0 0, .slice none 0 0] 29)
theorem cW_start {w : World} {a b c : Value} : Box (w.heap.size + 1) 3 29 (cW w a b c) (cW w a b c) := ⟨Below.refl _ _, _, alloc2_at w _ _, rfl⟩
theorem cW_cells {w w1 : World} {a b c : Value} (h : Box (w.heap.size + 1) 3 29 (cW w a b c) w1) : w1.cell? ⟨w.heap.size, 0, none⟩ = some a ∧ w1.cell? ⟨w.heap.size, 1, none⟩ = some b ∧ w1.cell? ⟨w.heap.size, 2, none⟩ = some c := by
  have h0 : w1.heap[w.heap.size]? = some (.cells #[a, b, c] 29 (0, 0)) := (h.1.block _ (by omega)).trans ((Below.heap_alloc _ _ _ (by simp)).trans (heap_alloc_new w _))
  exact ⟨cell_of_row _ _ 0 _ _ _ h0, cell_of_row _ _ 1 _ _ _ h0, cell_of_row _ _ 2 _ _ _ h0⟩
theorem cW_below {w w1 : World} {a b c : Value} {g n : Nat} {t : TypeId} (hg : g = w.heap.size + 1) (h : Box g n t (cW w a b c) w1) : Below w.heap.size w w1 :=
  (((Below.refl _ _).alloc (Nat.le_refl _) _).alloc (by simp) _).trans (h.1.mono (by omega))

/-- `append(nil, l...)`, at one operation of a region. -/
theorem wp_copy {o : Oper} {a : Act} {w : World} {K : Act → World → Prop} {Q : Exit → Act → World → Prop} (s x : Operand) (t : TypeId)
    (ho : o.op = .call { callee := .builtin .append, args := #[s, x], argTypes := #[t, t] })
    (e : TypeId) {z : Value} {size bytes : Nat} (ht : Try.prog.underlying t = some (.slice e)) (hi : (Try.prog.info? e).map (fun i => (i.zero, i.size, i.bytes)) = some (some z, size, bytes)) (hzs : z.cells.size = size) (hsz : 0 < size)
    (hs : a.eval s = .slice none 0 0) {A : Option Addr} {m c : Nat} {news : List Value} (hx : a.eval x = .slice A m c) (hr : Rd w size A m news) (h1 : ∀ u ∈ news, u.oneCell' = true)
    (hbytes : m * bytes ≤ 140737488355328) (hb1 : 0 < bytes)
    (h : ∀ B d w', w'.ownsRow w.heap.size e size (.slice B m d) m news → Below w.heap.size w w' → K (a.put o.dst (.slice B m d)) w') : o.wp Try.prog a w K Q := by
  obtain ⟨i0, hi, hz0, hz1, hz2⟩ := info_parts hi
  refine wp_append_rd s x t ho w.heap.size e ht hi hz0 hz1 hz2 hzs hsz hs (World.ownsRow_nil _ _ _ _) hx hr h1 (by rw [Nat.zero_add]; exact hbytes) hb1 (Nat.le_refl _) ?_
  intro v' w' hown hg _
  rw [Nat.zero_add, List.nil_append] at hown
  obtain ⟨B, d, rfl, _, _⟩ := own_rd hown
  exact h B d w' hown ((Below.refl _ _).grown hg (Nat.le_refl _) (fun k e => by simp [Value.ownBlock] at e))

theorem sl3' (A0 A1 A2 : Option Addr) (n0 c0 n1 c1 n2 c2 : Nat) : (#[.slice A0 n0 c0, .slice A1 n1 c1, .slice A2 n2 c2] : Array Value).all (·.oneCell') = true := sl3_one _ _ _ _ _ _ _ _ _

theorem copy_c (A0 A1 A2 : Option Addr) (c0 c1 c2 : Nat) (nd : NodeD) (w : World) (hN : RdN w A0 c0 A1 c1 A2 c2 nd) :
    Calls Try.prog 60 #[vN A0 c0 A1 c1 A2 c2 nd] w fun e w' =>
      ∃ B0 d0 B1 d1 B2 d2, e = .returned (vN B0 d0 B1 d1 B2 d2 nd) ∧ OwN w' w.heap.size w'.heap.size B0 d0 B1 d1 B2 d2 nd ∧ Below w.heap.size w w' := by
  have HN := Lib.hid hN
  have hp := hN.hp
  have hs := hN.hs
  have hk := hN.hk
  clear hN
  go_enter Try.func60, Try.ntmps60
  go_wp2
  have hS1 := @cW_start w (.slice A0 nd.pairs.length c0) (.slice A1 nd.seps.length c1) (.slice A2 nd.kids.length c2)
  have HF := Lib.hid (fun W (h : Box (w.heap.size + 1) 3 29 (cW w (.slice A0 nd.pairs.length c0) (.slice A1 nd.seps.length c1) (.slice A2 nd.kids.length c2)) W) => cW_cells h)
  refine wp_region_sched (S := Box (w.heap.size + 1) 3 29 (cW w (.slice A0 nd.pairs.length c0) (.slice A1 nd.seps.length c1) (.slice A2 nd.kids.length c2)))
    [(0, true), (1, true), (2, true), (4, true), (5, true), (6, true), (8, true), (9, true), (10, true), (3, false), (7, false), (11, false), (12, true), (13, false)]
    (by kernel_rfl) (by kernel_rfl) (by kernel_rfl) (fun _ _ d _ _ h => by cases d <;> exact h) hS1.drew ?_
  repeat (apply sched_take; (exact rfl); rfl; (intro W hW; obtain ⟨q0, q1, q2⟩ := HF.out W hW; go_simp; (try with_reducible rfl)); simp only [Act.put, List.setIfInBounds_toArray, List.set_cons_zero, List.set_cons_succ])
  apply sched_run; (exact rfl); rfl; intro K hK
  refine wp_copy (.tmp 6) (.tmp 8) 25 rfl 31 Try.underlying25 info31 rfl (by decide) rfl rfl (HN.out.pairs.below (cW_below rfl hS1.drew)) (pc1 _) hp (by decide) ?_
  intro B0 d0 w1 hown1 hb1
  have hS2 := hS1.drew.step hb1
  have HO1 := Lib.hid hown1
  clear hown1
  refine hK.out _ _ hS2 (fun _ => ?_)
  clear hK K
  try simp only [Act.put, List.setIfInBounds_toArray, List.set_cons_zero, List.set_cons_succ]
  apply sched_run; (exact rfl); rfl; intro K hK
  refine wp_copy (.tmp 10) (.tmp 12) 26 rfl 9 Try.underlying26 info9 rfl (by decide) rfl rfl (HN.out.seps.below (cW_below rfl hS2)) (sc1 _) hs (by decide) ?_
  intro B1 d1 w2 hown2 hb2
  have hS3 := hS2.step hb2
  have HO2 := Lib.hid hown2
  clear hown2
  refine hK.out _ _ hS3 (fun _ => ?_)
  clear hK K
  try simp only [Act.put, List.setIfInBounds_toArray, List.set_cons_zero, List.set_cons_succ]
  apply sched_run; (exact rfl); rfl; intro K hK
  refine wp_copy (.tmp 14) (.tmp 16) 27 rfl 85 Try.underlying27 info85' (by kernel_rfl) (by decide) rfl rfl (HN.out.kids.below (cW_below rfl hS3)) (kc1 _) hk (by decide) ?_
  intro B2 d2 w3 hown3 hb3
  have hS4 := hS3.step hb3
  have HO3 := Lib.hid hown3
  clear hown3
  refine hK.out _ _ hS4 (fun _ => ?_)
  clear hK K
  try simp only [Act.put, List.setIfInBounds_toArray, List.set_cons_zero, List.set_cons_succ]
  repeat (apply sched_take; (exact rfl); rfl; (intro W hW; obtain ⟨q0, q1, q2⟩ := HF.out W hW; go_simp; (try with_reducible rfl)); simp only [Act.put, List.setIfInBounds_toArray, List.set_cons_zero, List.set_cons_succ])
  apply sched_run; (exact rfl); rfl; intro K hK
  refine wp_store_box hS4 29 (.tmp 2) (.tmp 18) rfl _ rfl rfl info29' rfl ?_ ?_
  · exact sl3_one _ _ _ _ _ _ _ _ _
  refine hK.out _ _ (hS4.setRow _ rfl) (fun _ => ?_)
  clear hK K
  refine sched_done ?_
  go_wp2
  refine bodyPost_ret (results_cell_row rfl _ _ (w.heap.size + 1) 29 _ (0, 0) _ rfl (hS4.2.setRow _ rfl).2 Try.underlying29 rfl info29') rfl ?_
  have hz : w.heap.size + 1 + 1 = (cW w (.slice A0 nd.pairs.length c0) (.slice A1 nd.seps.length c1) (.slice A2 nd.kids.length c2)).drew.heap.size := by simp [cW]
  have hN := HN.out
  have h0 : OwN w3 (w.heap.size + 1 + 1) w3.heap.size B0 d0 B1 d1 B2 d2 nd :=
    { pairs := ownsRow_mono' (own_below (own_below HO1.out hb2) hb3) (Nat.le_of_eq hz)
      seps := ownsRow_mono' (own_below HO2.out hb3) hS2.2.lt
      kids := ownsRow_mono' HO3.out (Nat.lt_of_lt_of_le hS2.2.lt hb2.size)
      u0 := fun k hk => own_lt (own_below (own_below HO1.out hb2) hb3) k hk
      u1 := fun k hk => own_lt (own_below HO2.out hb3) k hk
      u2 := fun k hk => own_lt HO3.out k hk
      hp := hp
      hs := hs
      hk := hk
      pk := hN.pk
      sk := hN.sk
      kk := hN.kk }
  exact ⟨B0, d0, B1, d1, B2, d2, rfl, (h0.setRow _ _ (by omega)).wide (by omega) (by simp [World.setRow]), cW_below rfl (hS4.setRow _ rfl)⟩

end Go.Proofs.Ytajkoeodabmgeaa
