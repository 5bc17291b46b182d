import Derived.Deep.CondSized
import Derived.Test.YtajkoeodabmgeaaQ3
import Derived.Test.YtajkoeodabmgeaaSP6
namespace Go.Proofs.Ytajkoeodabmgeaa
open Go.ChangeShapes Go.WideShapes Go.ChangeAt Go.RowKit Go.Deep
set_option maxRecDepth 100000

theorem cells68 : Try.prog.cellsOf 68 = 9 := by kernel_rfl

section
variable {H : Type} {enc : TypeId × Value → H} {W : World}

theorem open_kids_cells {m : Nat} {l : List Value} {y : DataW H × List MemPlace} (hh : DataW.trod enc Try.prog W 0 (fun _ => true) true m 27 l = some y) (wt : ∀ k ∈ y.1.weights Try.prog 27, k ≤ reachBytes) :
    ∃ (A : Option Addr) (c : Nat) (ks : List KidD), l = [.slice A ks.length c] ∧ Rd W 33 A ks.length (kcells ks) ∧ ks.length ≤ c ∧ ks.length * 36 ≤ 140737488351232 ∧ (∀ k ∈ ks, k.sum.length = 32) ∧ ks.length ≤ Rows.uptoBulk y.1 := by
  obtain ⟨A2, n2, c2, xs2, e2, nc2, b2, r2, g2⟩ := open_rd Try.underlying27 cells85 (by decide) hh wt
  subst e2
  have u2 := slice_bulk Try.underlying27 hh
  rw [bytes85] at b2
  unfold reachBytes at b2
  obtain ⟨lk, hk1, hk2, hk3⟩ := chunk_list KidD.cells 33 (fun k => k.sum.length = 32) (fun k hk => by simp [KidD.cells, hk]) n2 xs2 r2.1 (fun i hi => by
    obtain ⟨cs', m, y, e, _, ht, hw⟩ := g2 i hi
    obtain ⟨p, hq, hc⟩ := open_kid_cells ht
    exact ⟨p, hq, e.trans hc⟩)
  subst hk1
  exact ⟨A2, c2, lk, rfl, by rw [show kcells lk = xs2 from hk2]; exact r2, nc2, by omega, hk3, u2⟩
theorem open_seps_cells {m : Nat} {l : List Value} {y : DataW H × List MemPlace} (hh : DataW.trod enc Try.prog W 0 (fun _ => true) true m 26 l = some y) (wt : ∀ k ∈ y.1.weights Try.prog 26, k ≤ reachBytes) :
    ∃ (A : Option Addr) (c : Nat) (ss : List ByteArray), l = [.slice A ss.length c] ∧ Rd W 1 A ss.length (scells ss) ∧ ss.length ≤ c ∧ ss.length * 16 ≤ 140737488351232 ∧ (∀ s ∈ ss, s.size ≤ 140737488355328) ∧ ss.length ≤ Rows.uptoBulk y.1 := by
  obtain ⟨A1, n1, c1, xs1, e1, nc1, b1, r1, g1⟩ := open_rd Try.underlying26 cells9 (by decide) hh wt
  subst e1
  have u1 := slice_bulk Try.underlying26 hh
  rw [bytes9] at b1
  unfold reachBytes at b1
  obtain ⟨ls, hs1, hs2, hs3⟩ := chunk_list (fun s : ByteArray => [Value.string s]) 1 (fun s => s.size ≤ 140737488355328) (fun _ _ => rfl) n1 xs1 r1.1 (fun i hi => by
    obtain ⟨cs', m, y, e, _, ht, hw⟩ := g1 i hi
    obtain ⟨p, hq, hc⟩ := open_text_cells ht hw
    exact ⟨p, hq, e.trans hc⟩)
  have hs2' : scells ls = xs1 := by
    rw [← hs2]
    clear hs1 hs2 hs3
    unfold scells
    induction ls with
    | nil => rfl
    | cons a l ih => simp [ih]
  subst hs1
  exact ⟨A1, c1, ls, rfl, by rw [hs2']; exact r1, nc1, by omega, hs3, u1⟩

/-- What Splice is asked, as it came in. -/
theorem open_spliced {r : Reach} {b0 : Nat} {v : Value} {d : DataW H} {ps : List MemPlace} (hv : Value.okWide Try.prog W r b0 68 v) (h : DataW.Trod enc Try.prog W 0 (fun _ => true) true 68 v d ps) (wt : ∀ k ∈ d.weights Try.prog 68, k ≤ reachBytes) :
    ∃ (pg wd a m : Int) (x : VH) (nd : NodeD) (KA SA : Option Addr) (kc sc : Nat) (ks : List KidD) (ss : List ByteArray), v = .agg (cellsSp pg wd x nd a m KA SA kc sc ks ss) ∧ RdN W x.A0 x.c0 x.A1 x.c1 x.A2 x.c2 nd ∧ RdN W none 0 SA sc KA kc ⟨[], ss, ks⟩ ∧ Room 100 nd ∧
      (nd.pairs.length + nd.seps.length + nd.kids.length) + ks.length + ss.length ≤ Rows.uptoBulk d := by
  obtain ⟨cs, rfl, hsz⟩ := okWide_struct Try.underlying68 hv
  obtain ⟨fuel, hh⟩ := h
  obtain ⟨xs, n, _, hx, hl, hxl, hf⟩ := DataW.trod_struct Try.underlying68 hh
  obtain ⟨l⟩ := cs
  rw [cells68] at hl
  match l, hl with
  | [v0, v1, v2, v3, v4, v5, v6, v7, v8], _ =>
    obtain ⟨x0, x1, x2, x3, x4, x5, rfl⟩ : ∃ a b c d e f, xs = [a, b, c, d, e, f] := by
      match xs, (show xs.length = 6 from hxl) with
      | [a, b, c, d, e, f], _ => exact ⟨a, b, c, d, e, f, rfl⟩
    simp only [Prod.mk.injEq] at hx
    obtain ⟨rfl, _⟩ := hx
    have h0 : DataW.trod enc Try.prog W 0 (fun _ => true) true n 24 (([v0, v1, v2, v3, v4, v5, v6, v7, v8].drop 0).take (Try.prog.cellsOf 24)) = some x0 := hf 0 _ rfl
    have h1 : DataW.trod enc Try.prog W 0 (fun _ => true) true n 29 (([v0, v1, v2, v3, v4, v5, v6, v7, v8].drop 2).take (Try.prog.cellsOf 29)) = some x1 := hf 1 _ rfl
    have h2 : DataW.trod enc Try.prog W 0 (fun _ => true) true n 3 (([v0, v1, v2, v3, v4, v5, v6, v7, v8].drop 5).take (Try.prog.cellsOf 3)) = some x2 := hf 2 _ rfl
    have h3 : DataW.trod enc Try.prog W 0 (fun _ => true) true n 3 (([v0, v1, v2, v3, v4, v5, v6, v7, v8].drop 6).take (Try.prog.cellsOf 3)) = some x3 := hf 3 _ rfl
    have h4 : DataW.trod enc Try.prog W 0 (fun _ => true) true n 27 (([v0, v1, v2, v3, v4, v5, v6, v7, v8].drop 7).take (Try.prog.cellsOf 27)) = some x4 := hf 4 _ rfl
    have h5 : DataW.trod enc Try.prog W 0 (fun _ => true) true n 26 (([v0, v1, v2, v3, v4, v5, v6, v7, v8].drop 8).take (Try.prog.cellsOf 26)) = some x5 := hf 5 _ rfl
    rw [cells24] at h0
    rw [cells29] at h1
    rw [cells3] at h2 h3
    rw [cells27] at h4
    rw [cells26] at h5
    have w1 : ∀ k ∈ x1.1.weights Try.prog 29, k ≤ reachBytes := fun k hk => wt k (by rw [DataW.weights, Try.underlying68]; simp [DataW.weightsEach, hk])
    have w4 : ∀ k ∈ x4.1.weights Try.prog 27, k ≤ reachBytes := fun k hk => wt k (by rw [DataW.weights, Try.underlying68]; simp [DataW.weightsEach, hk])
    have w5 : ∀ k ∈ x5.1.weights Try.prog 26, k ≤ reachBytes := fun k hk => wt k (by rw [DataW.weights, Try.underlying68]; simp [DataW.weightsEach, hk])
    obtain ⟨ys, n', _, _, hl', hyl, hf'⟩ := DataW.trod_struct Try.underlying24 h0
    obtain ⟨y0, y1, rfl⟩ := list2 (show ys.length = 2 from hyl)
    have k0 : DataW.trod enc Try.prog W 0 (fun _ => true) true n' 3 ((([v0, v1, v2, v3, v4, v5, v6, v7, v8].drop 0).take 2).drop 0 |>.take (Try.prog.cellsOf 3)) = some y0 := hf' 0 _ rfl
    have k1 : DataW.trod enc Try.prog W 0 (fun _ => true) true n' 3 ((([v0, v1, v2, v3, v4, v5, v6, v7, v8].drop 0).take 2).drop 1 |>.take (Try.prog.cellsOf 3)) = some y1 := hf' 1 _ rfl
    rw [cells3] at k0 k1
    obtain ⟨pg, e0, _, _⟩ := DataW.trod_int Try.underlying3 k0
    obtain ⟨wd, e1, _, _⟩ := DataW.trod_int Try.underlying3 k1
    obtain ⟨x, nd, en, r1, m1, u1⟩ := open_node_cells h1 w1
    obtain ⟨a, e2, _, _⟩ := DataW.trod_int Try.underlying3 h2
    obtain ⟨m, e3, _, _⟩ := DataW.trod_int Try.underlying3 h3
    obtain ⟨KA, kc, ks, e4, rk, ck, bk, kk, uk⟩ := open_kids_cells h4 w4
    obtain ⟨SA, sc, ss, e5, rs, cs', bs, sk, us⟩ := open_seps_cells h5 w5
    simp at e0 e1 en e2 e3 e4 e5
    obtain ⟨rfl, rfl, rfl⟩ := en
    subst e0 e1 e2 e3 e4 e5
    refine ⟨pg, wd, a, m, x, nd, KA, SA, kc, sc, ks, ss, rfl, r1, ?_, m1, ?_⟩
    · exact {
        pairs := ⟨by simp [pcells], fun h => absurd h (by simp)⟩
        seps := rs
        kids := rk
        hp := by simp
        hs := by simp only; omega
        hk := by simp only; omega
        hcp := by simp
        hcs := cs'
        hck := ck
        pk := fun _ h => by cases h
        sk := sk
        kk := kk }
    · simp only [Rows.uptoBulk, Rows.uptoBulkAll, List.map_cons, List.map_nil]
      omega
end

theorem spliceR_room {pg wd a m : Int} {nd : NodeD} {ks : List KidD} {ss : List ByteArray} (h : (nd.pairs.length + nd.seps.length + nd.kids.length) + ks.length + ss.length ≤ 1048576) : Room 6 (spliceR pg wd nd a m ks ss) := by
  have hn : Room 6 noN := ⟨by decide, by decide, by decide⟩
  unfold spliceR
  split
  · unfold spliceN
    exact ⟨by simp, by simp; omega, by simp; omega⟩
  · exact hn

theorem splices_lifted (os : Os) (started : os.Started) (H : Type) (enc : TypeId × Value → H) (F : Stop.Interp) :
    ReturnsInHanded {} Try.checked os 13 .any ((Rows.OpenSpec.upto Rows.graftSplicesSpec).pre6 enc Try.prog Try.f13 Rows.graftSplicesUptoRow.domain false) (((Rows.OpenSpec.upto Rows.graftSplicesSpec).at F).post enc Try.prog Try.f13 false true false false) := by
  refine returnsInHanded_of_cond_sized (C := Try.checked) (s := Rows.OpenSpec.upto Rows.graftSplicesSpec) (k := Rows.uptoSmall) rfl Try.own started (by kernel_rfl) Try.func13
    (OpenSpec.witness (enc := enc) (C := Try.checked) (s := Rows.OpenSpec.upto Rows.graftSplicesSpec) (k := Rows.uptoSmall) rfl false ⟨#[], #[.agg #[.int .i64 0, .int .i64 0, .slice none 0 0, .slice none 0 0, .slice none 0 0, .int .i64 0, .int .i64 0, .slice none 0 0, .slice none 0 0]], []⟩ 8 (by kernel_rfl) (by kernel_rfl) (by kernel_rfl)
      (x := ([.agg [.agg [.lit (.int .i64 0), .lit (.int .i64 0)], .agg [.nil, .nil, .nil], .lit (.int .i64 0), .lit (.int .i64 0), .nil, .nil]], [], [])) (by kernel_rfl) rfl (by kernel_rfl)) ?_
  intro W base args ds gs before hval0 hW hcnd hk hsz _
  have hval : ∀ (j : Nat) t v, Try.f13.params[j]? = some t → args[j]? = some v → Value.okWide Try.prog W .any base t v := hval0
  have hW' : DataW.Whole enc Try.prog Try.f13.params.toList Rows.graftSplicesSpec.vars false W args.toList ds gs before := hW
  obtain ⟨p, q, hA0, hV, rfl, hfz, hnd⟩ := hW
  have hA : DataW.TrodAll enc Try.prog W 0 (fun _ => true) true Try.f13.params.toList args.toList ds p := hA0
  rw [Try.params13] at hA hval
  obtain ⟨v0, vs0, d0, ds0, p0, q0, hargs, rfl, rfl, h0, r0⟩ := trodAll_cons hA
  obtain ⟨rfl, rfl, rfl⟩ := trodAll_nil r0
  obtain rfl : args = #[v0] := by cases args; simp_all
  obtain ⟨rfl, rfl⟩ := trodVars_none hV
  obtain ⟨pg, wd, a, m, x, nd, KA, SA, kc, sc, ks, ss, rfl, hN, hK, rL, hb⟩ := open_spliced (hval 0 68 v0 rfl rfl) h0 (weight_at hsz (j := 0) rfl rfl)
  have hk' : Rows.uptoSmall H [d0] = true := by simpa using hk
  have hbk : Rows.uptoBulkAll [d0] ≤ 1048576 := of_decide_eq_true hk'
  simp only [Rows.uptoBulkAll] at hbk
  have hsum : (nd.pairs.length + nd.seps.length + nd.kids.length) + ks.length + ss.length ≤ 1048576 := by omega
  clear hA0 hval0 hsz hk hk'
  simp only [List.append_nil] at hW'
  refine (splices_law pg wd a m x nd KA SA kc sc ks ss W hN hK (room_less rL (by decide)) ⟨by simp, by simp only; omega, by simp only; omega⟩ (by omega) (by omega) (spliceR_room hsum)).mono fun e W' ⟨he, hb⟩ => ?_
  subst he
  exact ⟨_, rfl, law_post Try.f13 Rows.graftSplicesSpec hW' rfl rfl (by kernel_rfl) (by kernel_rfl) hb⟩

end Go.Proofs.Ytajkoeodabmgeaa
