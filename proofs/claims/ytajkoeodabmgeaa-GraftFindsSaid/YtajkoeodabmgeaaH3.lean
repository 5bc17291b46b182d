import Derived.Stop.RegionWithIn
import Derived.Test.YtajkoeodabmgeaaH2
namespace Go.Proofs.Ytajkoeodabmgeaa
open Go.RowKit Go.Shelf
set_option maxHeartbeats 2000000
set_option maxRecDepth 100000
attribute [local go_sem] Oper.semAt_some

theorem Oper.about_store {P : Program} {o : Oper} {w : World} {ρ : Operand → Value} (ty : TypeId) (x y : Operand) (ho : o.op = .store ty x y) : o.about P w ρ = none := by
  unfold Oper.about
  simp only [ho]

theorem wpListIn_store_row {F : Fence} {n : Nat} {P : Program} {ops : Array Oper} {rest : List Oper} {o : Oper} {a : Act} {w : World} {Q : Exit → Act → World → Prop} (hro : F.round = none) (hgd : o.guard = none) (ty : TypeId) (x y : Operand) (ho : o.op = .store ty x y)
    (g : Nat) (cells : Array Value) (hx : a.eval x = .pointer (some ⟨g, 0, none⟩)) (hy : a.eval y = .agg cells)
    (t : TypeId) (old : Array Value) (hg : w.heap[g]? = some (.cells old t (0, 0))) (hi : (P.info? ty).map (·.size) = some cells.size)
    (hold : old.size = cells.size) (h1 : cells.all (·.oneCell') = true)
    (h : wpListIn F n P ops Q rest (a.put o.dst undef) (w.setRow g cells)) : wpListIn F n P ops Q (o :: rest) a w :=
  wpListIn_plain hgd fun K hK => by
    unfold Oper.wpIn
    refine ⟨fun f hf => (by rw [Oper.about_store ty x y ho] at hf; cases hf), ?_⟩
    rw [hro, Oper.semAt_none]
    unfold execOp
    simp only [ho, hx, hy, Instr.storeAt, Instr.sureAddr, Sem.run_bind, Sem.run_pure, Result.andThen_ok, run_storeVar_row w g t ty old cells hg hi hold h1]
    exact hK _ _ h

theorem shaped_cut {pg : Int} {wd : Nat} {nd : NodeD} (h : shaped pg wd nd) (j : Nat) (hj : j < cutsN nd) : cutOk nd (firstN nd + j) := by
  unfold shaped at h
  unfold cutsN at hj
  unfold cutOk firstN
  by_cases hk : nd.kids.length = 0
  · simp only [hk, if_true] at hj ⊢
    omega
  · simp only [hk, if_false] at hj ⊢
    rw [if_neg (show ¬ leafD nd from fun hq => hk hq.2)] at h
    omega

theorem ends_cuts (nd : NodeD) : endsA nd = (firstN nd : Nat) ∧ (∀ j : Nat, j < cutsN nd → ((firstN nd + j : Nat) : Int) ≤ endsZ nd) ∧ endsZ nd < ((firstN nd + cutsN nd : Nat) : Int) := by
  unfold endsA endsZ firstN cutsN
  by_cases hk : nd.kids.length = 0
  · simp only [hk, if_true]; refine ⟨rfl, fun j hj => ?_, ?_⟩ <;> omega
  · simp only [hk, if_false]; refine ⟨rfl, fun j hj => ?_, ?_⟩ <;> omega

theorem box7 {w : World} {g : Nat} {a b c d e f h : Value} {fr : Nat × Nat} (hg : w.heap[g]? = some (.cells #[a, b, c, d, e, f, h] 54 fr)) :
    (w.cell? ⟨g, 0, none⟩ = some a ∧ w.cell? ⟨g, 1, none⟩ = some b ∧ w.cell? ⟨g, 2, none⟩ = some c) ∧ (w.cell? ⟨g, 4, none⟩ = some e ∧ w.cell? ⟨g, 5, none⟩ = some f ∧ w.cell? ⟨g, 6, none⟩ = some h) :=
  ⟨⟨cell_of_row _ _ 0 _ _ _ hg, cell_of_row _ _ 1 _ _ _ hg, cell_of_row _ _ 2 _ _ _ hg⟩, cell_of_row _ _ 4 _ _ _ hg, cell_of_row _ _ 5 _ _ _ hg, cell_of_row _ _ 6 _ _ _ hg⟩
def upTo (f k : Nat) : List Nat := (List.range k).map (f + ·)
theorem upTo_succ (f k : Nat) : upTo f (k + 1) = upTo f k ++ [f + k] := by simp [upTo, List.range_succ]
theorem upTo_length (f k : Nat) : (upTo f k).length = k := by simp [upTo]
theorem upTo_prefix (f : Nat) {k n : Nat} (h : k ≤ n) : upTo f k <+: upTo f n := by
  rw [show upTo f k = (upTo f n).take k by simp [upTo, ← List.map_take, List.take_range, Nat.min_eq_left h]]
  exact List.take_prefix _ _
theorem own7 (x y : VH) (L R : NodeD) (s : ByteArray) : (#[.slice x.A0 L.pairs.length x.c0, .slice x.A1 L.seps.length x.c1, .slice x.A2 L.kids.length x.c2, .string s, .slice y.A0 R.pairs.length y.c0, .slice y.A1 R.seps.length y.c1, .slice y.A2 R.kids.length y.c2] : Array Value).all (·.oneCell') = true := by simp [Value.oneCell']
abbrev zero7 : Array Value := #[.slice none 0 0, .slice none 0 0, .slice none 0 0, .string ⟨#[]⟩, .slice none 0 0, .slice none 0 0, .slice none 0 0]

theorem cuts_some (n : Nat) (hn : 1 ≤ n) (pg wd : Int) (A0 A1 A2 : Option Addr) (c0 c1 c2 : Nat) (nd : NodeD) (Bf Bn n₀ : Nat) (w : World) (hc : checkE pg wd nd = 0) (hw0 : n₀ ≤ w.heap.size)
    (K : World → World → Prop) (hKt : ∀ {A B C : World}, K A B → K B C → K A C) (hK0 : ∀ {A B : World}, Below n₀ A B → K A B) (hKs : ∀ {A B : World}, K A B → A.heap.size ≤ B.heap.size)
    (hN : ∀ W, K w W → RdN W A0 c0 A1 c1 A2 c2 nd) (hF : ∀ W, K w W → W.cell? ⟨Bf, 0, none⟩ = some (.int .i64 pg) ∧ W.cell? ⟨Bf, 1, none⟩ = some (.int .i64 wd))
    (hnn : ∀ W, K w W → W.cell? ⟨Bn, 0, none⟩ = some (.slice A0 nd.pairs.length c0) ∧ W.cell? ⟨Bn, 1, none⟩ = some (.slice A1 nd.seps.length c1) ∧ W.cell? ⟨Bn, 2, none⟩ = some (.slice A2 nd.kids.length c2)) :
    SeqStopsK Fence.wide n Try.prog 73 #[.pointer (some ⟨Bf, 0, none⟩), .pointer (some ⟨Bn, 0, none⟩)] (encCut pg wd nd) K (fun xs => xs = places pg wd nd) (fun pre => pre <+: places pg wd nd) (places pg wd nd).length w := fun l J Jx W hW hJ hJx hY h0 => by
  have hpl : places pg wd nd = (List.range (cutsN nd)).map (firstN nd + ·) := by simp [places, hc]
  obtain ⟨hr, hsh⟩ := checkE_zero hc
  obtain ⟨he1, he2, he3⟩ := ends_cuts nd
  have hok := fun j hj => shaped_cut hsh j hj
  have hsz : firstN nd + cutsN nd ≤ 5000000000000 := by
    have h1 := (hN w (hK0 (Below.refl _ _))).hp
    have h2 := (hN w (hK0 (Below.refl _ _))).hk
    unfold firstN cutsN
    split <;> omega
  have hW := hK0 (hW.mono hw0)
  have HPL := Lib.hid hpl
  have HOK := Lib.hid hok
  have HN := Lib.hid hN
  have HJ := Lib.hid hJ
  have HX := Lib.hid hJx
  have H0 := Lib.hid h0
  have HY := Lib.hid hY
  have HR := Lib.hid hr
  have HC := Lib.hid hc
  have HE2 := Lib.hid he2
  clear hpl hok hN hJ hJx h0 hY hr hsh hc he2
  have HFF := Lib.hid hF
  have HNN := Lib.hid hnn
  clear hF hnn
  have hmf : ∀ (fn : Fn) (first cap : Array Value) (w : World), (Instr.makeFunc fn first cap).run Try.prog w = .ok (.func fn first cap) w := fun _ _ _ _ => rfl
  obtain ⟨q0, q1⟩ := HFF.out _ hW
  obtain ⟨q2, q3, q4⟩ := HNN.out _ hW
  refine callsIn_of_wp Try.func73 rfl trivial ?_ rfl
  simp only [Try.ntmps73, List.size_toArray, List.length_cons, List.length_nil, Nat.reduceAdd, Nat.reduceSub, Array.replicate_succ, Array.replicate_zero, List.push_toArray, List.append_toArray, List.nil_append, List.cons_append]
  gi_wp2_with (first
    | (refine ⟨trivial, ?_⟩; gi_at_call 61; refine (callsIn_wide.2 (frame_v pg wd _ _ HR.out)).mono ?_; rintro e w1 ⟨rfl, hb1⟩; have hB1 := hKt hW (hK0 (hb1.mono (Nat.le_trans hw0 (hKs hW)))); clear q0 q1 q2 q3 q4; obtain ⟨q0, q1⟩ := HFF.out _ hB1; obtain ⟨q2, q3, q4⟩ := HNN.out _ hB1)
    | (refine ⟨trivial, ?_⟩; gi_at_call 74; refine (callsIn_wide.2 (check_v pg wd A0 A1 A2 c0 c1 c2 nd _ (HN.out _ hB1) _ HC.out)).mono ?_; rintro e w2 ⟨rfl, hb2⟩; have hB2 := hKt hB1 (hK0 (hb2.mono (Nat.le_trans hw0 (hKs hB1)))); clear q0 q1 q2 q3 q4; obtain ⟨q0, q1⟩ := HFF.out _ hB2; obtain ⟨q2, q3, q4⟩ := HNN.out _ hB2)
    | (refine ⟨trivial, ?_⟩; gi_at_call 76; refine (callsIn_wide.2 (ends_c A0 A1 A2 c0 c1 c2 nd _ (HN.out _ hB2))).mono ?_; rintro e w3 ⟨rfl, hb3⟩; have hB3 := hKt hB2 (hK0 (hb3.mono (Nat.le_trans hw0 (hKs hB2)))); clear q0 q1 q2 q3 q4))
  gi_loopw [7] (fun i wr => ∃ k : Nat, k ≤ cutsN nd ∧ i = .int .i64 ((firstN nd + k : Nat) : Int) ∧ J (upTo (firstN nd) k) wr ∧ K w wr) (fun i _ => (firstN nd + cutsN nd) - (intOf i).toNat)
  case atStart => exact ⟨0, Nat.zero_le _, rfl, abides_below HJ.out H0.out ((hb1.trans (hb2.mono hb1.size)).trans (hb3.mono (Nat.le_trans hb1.size hb2.size))), hB3⟩
  case round =>
    clear hB1 hB2 hB3 hb1 hb2 hb3
    obtain ⟨k, hk, rfl, hJs, hB⟩ := hrel
    obtain ⟨q0, q1⟩ := HFF.out _ hB
    obtain ⟨q2, q3, q4⟩ := HNN.out _ hB
    by_cases hlt : k < cutsN nd
    · have hle : ((firstN nd + k : Nat) : Int) ≤ endsZ nd := HE2.out k hlt
      have hkk := Lib.hid (HOK.out k hlt)
      have HJS := Lib.hid hJs
      clear hJs
      generalize hKe : firstN nd + k = M at *
      have HYK : Hid (∀ W1, Below wr.heap.size wr W1 → K w W1 → ∃ fn tmps assign body, (Instr.yield l (encCut pg wd nd M)).run Try.prog W1 = .ok (.round l fn tmps assign body) W1 ∧ RoundIn Fence.wide (n - 1) Try.prog l fn tmps assign body W1 (fun e W' => ∃ b : Bool, e = .returned (.bool b) ∧ Hid (if b = true then J (upTo (firstN nd) (k + 1)) W' ∧ K w W' else Jx (upTo (firstN nd) (k + 1)) W'))) := Lib.hid (by
        intro W1 h1 h2
        obtain ⟨fn, tmps, assign, body, hy, hR⟩ := HY.out (upTo (firstN nd) k) M W1 (abides_below HJ.out HJS.out h1) (by rw [upTo_length, HPL.out]; simpa using hlt)
        refine ⟨fn, tmps, assign, body, hy, hR.mono ?_⟩
        rintro e W' (⟨rfl, h3, h4⟩ | ⟨rfl, h3⟩)
        · exact ⟨true, rfl, Lib.hid (by rw [if_pos rfl, upTo_succ, hKe]; exact ⟨h3, hKt h2 h4⟩)⟩
        · exact ⟨false, rfl, Lib.hid (by rw [if_neg (by decide), upTo_succ, hKe]; exact h3)⟩)
      have HKE := Lib.hid hKe
      clear hKe
      gi_wp2_with (first
        | (refine ⟨trivial, ?_⟩; gi_at_call 77; refine (callsIn_wide.2 (halves_c A0 A1 A2 c0 c1 c2 nd M _ (HN.out _ hB) hkk.out)).mono ?_; rintro e w4 ⟨x, y, mid, rfl, hx, hy, hb4, _⟩; have HX4 := Lib.hid hx; have HY4 := Lib.hid hy; clear hx hy))
      have hB4 := hKt hB (hK0 (hb4.mono (Nat.le_trans hw0 (hKs hB))))
      obtain ⟨W5, hW5⟩ : ∃ W5, W5 = w4.alloc (.cells #[.slice x.A0 (halvesL nd M).pairs.length x.c0, .slice x.A1 (halvesL nd M).seps.length x.c1, .slice x.A2 (halvesL nd M).kids.length x.c2, .string (halvesS nd M), .slice y.A0 (halvesR nd M).pairs.length y.c0, .slice y.A1 (halvesR nd M).seps.length y.c1, .slice y.A2 (halvesR nd M).kids.length y.c2] 54) := ⟨_, rfl⟩
      have hg5 : W5.heap[w4.heap.size]? = some (.cells #[.slice x.A0 (halvesL nd M).pairs.length x.c0, .slice x.A1 (halvesL nd M).seps.length x.c1, .slice x.A2 (halvesL nd M).kids.length x.c2, .string (halvesS nd M), .slice y.A0 (halvesR nd M).pairs.length y.c0, .slice y.A1 (halvesR nd M).seps.length y.c1, .slice y.A2 (halvesR nd M).kids.length y.c2] 54 (0, 0)) := by rw [hW5]; exact heap_alloc_new _ _
      have hb5 : Below w4.heap.size w4 W5 := by rw [hW5]; exact (Below.refl _ _).alloc (Nat.le_refl _) _
      rw [← hW5]
      clear hW5
      have hB5 := hKt hB4 (hK0 (hb5.mono (Nat.le_trans hw0 (hKs hB4))))
      have hl5 : w4.heap.size < W5.heap.size := (Array.getElem?_eq_some_iff.1 hg5).1
      have HG5 := Lib.hid hg5
      have HL5 := Lib.hid ((OwN.rd HX4.out).below hb5.drew)
      have HR5 := Lib.hid ((OwN.rd HY4.out).below hb5.drew)
      have hB5 := hKt hB5 (hK0 ((Below.refl _ _).drew : Below n₀ W5 W5.drew))
      clear hg5 q0 q1 q2 q3 q4
      obtain ⟨⟨q0, q1, q2⟩, q3, q4, q5⟩ := box7 HG5.out
      gi_region_with (first
        | (refine ⟨trivial, ?_⟩; gi_at_call 75; refine (callsIn_wide.2 (weigh_c pg wd Bf x.A0 x.A1 x.A2 x.c0 x.c1 x.c2 (halvesL nd M) _ (HL5.out) (HFF.out _ hB5).1 (HFF.out _ hB5).2)).mono ?_; rintro e w6 ⟨rfl, hb6⟩; have hB6 := hKt hB5 (hK0 (hb6.mono (Nat.le_trans hw0 (hKs hB5)))); obtain ⟨⟨r0, r1, r2⟩, r3, r4, r5⟩ := box7 ((hb6.block _ hl5).trans HG5.out))
        | (refine ⟨trivial, ?_⟩; gi_at_call 75; refine (callsIn_wide.2 (weigh_c pg wd Bf y.A0 y.A1 y.A2 y.c0 y.c1 y.c2 (halvesR nd M) _ (HR5.out.below hb6) (HFF.out _ hB6).1 (HFF.out _ hB6).2)).mono ?_; rintro e w7 ⟨rfl, hb7⟩; have hB7 := hKt hB6 (hK0 (hb7.mono (Nat.le_trans hw0 (hKs hB6)))); have hBr := ((hb4.trans (hb5.drew.mono hb4.size)).trans (hb6.mono (Nat.le_trans hb4.size hb5.size))).trans (hb7.mono (Nat.le_trans (Nat.le_trans hb4.size hb5.size) hb6.size)); obtain ⟨fn, tmps, assign, body, hy, hR⟩ := HYK.out _ hBr hB7; dsimp only [encCut] at hy)
        | (refine hR.mono ?_; rintro e w8 ⟨b, rfl, hb8⟩))
      all_goals
        have HKE' := HKE.out
        have HB8 := hb8.out
        clear hb8 hb7 hb6 hB7 hB6 hBr HYK HY HX HR5 HL5 HG5 HX4 HY4 hy hR
        cases b with
        | true =>
          rw [if_pos rfl] at HB8
          have HB9 := Lib.hid HB8
          clear HB8
          gi_wp2
          go_roundw
          case rel => exact ⟨k + 1, by omega, by first | go_num | (simp; omega), HB9.out.1, HB9.out.2⟩
          case measure => simp [intOf]; omega
        | false =>
          rw [if_neg (by decide)] at HB8
          have HB9 := Lib.hid HB8
          clear HB8
          gi_wp2
          refine bodyPost_ret (results_none rfl _ _ _) rfl ?_
          exact ⟨⟨_, rfl⟩, .inr ⟨_, by rw [HPL.out]; exact upTo_prefix _ (by omega), HB9.out⟩⟩
    · obtain rfl : k = cutsN nd := by omega
      have hgt : ¬ ((firstN nd + cutsN nd : Nat) : Int) ≤ endsZ nd := by omega
      generalize firstN nd + cutsN nd = M at *
      gi_wp2
      go_end0
      exact ⟨⟨_, rfl⟩, .inl (by rw [HPL.out]; exact hJs)⟩

/-- **What Cuts hands back goes over the cuts.** -/
theorem cuts_stops (n : Nat) (hn : 1 ≤ n) (pg wd : Int) (A0 A1 A2 : Option Addr) (c0 c1 c2 : Nat) (nd : NodeD) (Bf Bn n₀ : Nat) (w : World) (hw0 : n₀ ≤ w.heap.size)
    (K : World → World → Prop) (hKt : ∀ {A B C : World}, K A B → K B C → K A C) (hK0 : ∀ {A B : World}, Below n₀ A B → K A B) (hKs : ∀ {A B : World}, K A B → A.heap.size ≤ B.heap.size)
    (hN : ∀ W, K w W → RdN W A0 c0 A1 c1 A2 c2 nd) (hF : ∀ W, K w W → W.cell? ⟨Bf, 0, none⟩ = some (.int .i64 pg) ∧ W.cell? ⟨Bf, 1, none⟩ = some (.int .i64 wd))
    (hnn : ∀ W, K w W → W.cell? ⟨Bn, 0, none⟩ = some (.slice A0 nd.pairs.length c0) ∧ W.cell? ⟨Bn, 1, none⟩ = some (.slice A1 nd.seps.length c1) ∧ W.cell? ⟨Bn, 2, none⟩ = some (.slice A2 nd.kids.length c2)) :
    SeqStopsK Fence.wide n Try.prog 73 #[.pointer (some ⟨Bf, 0, none⟩), .pointer (some ⟨Bn, 0, none⟩)] (encCut pg wd nd) K (fun xs => xs = places pg wd nd) (fun pre => pre <+: places pg wd nd) (places pg wd nd).length w := by
  by_cases hc : checkE pg wd nd = 0
  · exact cuts_some n hn pg wd A0 A1 A2 c0 c1 c2 nd Bf Bn n₀ w hc hw0 K hKt hK0 hKs hN hF hnn
  · have h0 := hK0 (Below.refl n₀ w)
    exact cuts_none n hn pg wd A0 A1 A2 c0 c1 c2 nd Bf Bn K w hc (fun W h => hN W (hK0 (h.mono hw0))) (hF w h0).1 (hF w h0).2 (hnn w h0).1 (hnn w h0).2.1 (hnn w h0).2.2

end Go.Proofs.Ytajkoeodabmgeaa
