import Derived.Test.YtajkoeodabmgeaaB3
namespace Go.Proofs.Ytajkoeodabmgeaa
open Go.RowKit
set_option maxHeartbeats 400000
set_option maxRecDepth 100000
attribute [local go_sem] grow_cell grow_frozen grow_size

/-- A kid as a value. -/
def vK (k : KidD) : Array Value := k.cells.toArray
theorem vK_size (k : KidD) (h : k.sum.length = 32) : (vK k).size = 33 := by simp [vK, KidD.cells, h]
theorem info85 : (Try.prog.info? 85).map (·.size) = some 33 := by kernel_rfl
theorem vK_get (k : KidD) (j : Nat) : (vK k)[j + 1]? = (k.sum.map (Value.int .u8))[j]? := by simp [vK, KidD.cells]

theorem check3_c (k : KidD) (wd : Nat) (g : Nat) (w : World) (hl : k.sum.length = 32) (h1 : 1 ≤ wd) (h2 : wd ≤ 32)
    (hc1 : w.cell? ⟨g, 1, none⟩ = some (.int .i64 wd)) :
    Calls Try.prog 98 #[.agg (vK k), .pointer (some ⟨g, 0, none⟩)] w fun e w' => e = .returned (.bool (!fitsB wd k.sum)) ∧ Below w.heap.size w w' := by
  have hg : g < w.heap.size := World.block_lt_of_cell? w _ hc1
  have hg1 : g < w.heap.size + 1 := by omega
  have hr : (w.alloc (.cells (vK k) 85)).rangeAt w.heap.size 1 (k.sum.map (Value.int .u8)) := fun j v hv => by
    rw [cell_of_row _ w.heap.size (1 + j) _ _ _ (heap_alloc_new w _), Nat.add_comm, vK_get]; exact hv
  have HR := Lib.hid hr
  have HL := Lib.hid hl
  clear hr hl
  go_enter Try.func98, Try.ntmps98
  go_wp2_with (first
    | (refine wpList_load_mid rfl 83 (.tmp 6) rfl w.heap.size 1 rfl (k.sum.map (Value.int .u8)) _ HR.out Try.underlying83 rfl (by rw [List.length_map, HL.out]; exact info83) ?_)
    | (go_at_call 99; refine (sumsFits_c wd k.sum _ HL.out h1 h2).mono ?_; rintro e w1 ⟨rfl, hb⟩))
  go_ret
  exact ⟨rfl, below_a hb⟩

/-- The cells of one element of a row of rows of one length. -/
theorem flat_get {α : Type} (f : α → List Value) (sz : Nat) : ∀ (l : List α), (∀ x ∈ l, (f x).length = sz) → ∀ (i : Nat) (hi : i < l.length) (j : Nat), j < sz → (l.flatMap f)[i * sz + j]? = (f l[i])[j]?
  | [], _, i, hi, _, _ => by simp at hi
  | x :: l, hs, i, hi, j, hj => by
    have hx : (f x).length = sz := hs x (by simp)
    rw [List.flatMap_cons]
    cases i with
    | zero =>
      rw [Nat.zero_mul, Nat.zero_add, List.getElem?_append_left (by omega)]
      rfl
    | succ i =>
      rw [List.getElem?_append_right (by rw [hx, Nat.succ_mul]; omega), hx, show (i + 1) * sz + j - sz = i * sz + j by rw [Nat.succ_mul]; omega]
      simpa using flat_get f sz l (fun y hy => hs y (by simp [hy])) i (by simpa using hi) j hj

theorem pairs_at {w : World} {A : Option Addr} {l : List PairD} (h : Rd w 2 A l.length (pcells l)) {k : Nat} (hk : k < l.length) :
    ∃ b o, A = some ⟨b, o, none⟩ ∧ w.cell? ⟨b, o + k * 2, none⟩ = some (.string l[k].k) ∧ w.cell? ⟨b, o + k * 2 + 1, none⟩ = some (.string l[k].v) := by
  obtain ⟨b, o, e, hc⟩ := h.2 (by omega)
  have hp := flat_get PairD.cells 2 l (fun _ _ => rfl) k hk
  refine ⟨b, o, e, ?_, ?_⟩
  · exact hc (k * 2) _ (by have := hp 0 (by omega); simpa [pcells, PairD.cells] using this)
  · have := hc (k * 2 + 1) (.string l[k].v) (by have := hp 1 (by omega); simpa [pcells, PairD.cells] using this)
    simpa [Nat.add_assoc] using this

theorem seps_at {w : World} {A : Option Addr} {l : List ByteArray} (h : Rd w 1 A l.length (scells l)) {k : Nat} (hk : k < l.length) :
    ∃ b o, A = some ⟨b, o, none⟩ ∧ w.cell? ⟨b, o + k, none⟩ = some (.string l[k]) := by
  obtain ⟨b, o, e, hc⟩ := h.2 (by omega)
  exact ⟨b, o, e, hc k _ (by simp [scells, hk])⟩

theorem kids_at {w : World} {A : Option Addr} {l : List KidD} (h : Rd w 33 A l.length (kcells l)) (hs : ∀ k ∈ l, k.sum.length = 32) {k : Nat} (hk : k < l.length) :
    ∃ b o, A = some ⟨b, o, none⟩ ∧ w.rangeAt b (o + k * 33) l[k].cells := by
  obtain ⟨b, o, e, hc⟩ := h.2 (by omega)
  refine ⟨b, o, e, fun j v hv => ?_⟩
  have hj : j < 33 := by
    have := (List.getElem?_eq_some_iff.1 hv).1
    simpa [KidD.cells, hs l[k] (List.getElem_mem hk)] using this
  have hp := flat_get KidD.cells 33 l (fun x hx => by simp [KidD.cells, hs x hx]) k hk j hj
  have := hc (k * 33 + j) v (by rw [kcells, hp]; exact hv)
  simpa [Nat.add_assoc] using this

theorem indexP_c (A : Option Addr) (c : Nat) (l : List PairD) (pg wd : Int) (g : Nat) (w : World) (hR : Rd w 2 A l.length (pcells l)) (hl : l.length * 32 ≤ 140737488355328)
    (h0 : 0 ≤ pg) (h1 : pg ≤ 8192) (hv : ∀ p ∈ l, p.v.size ≤ 140737488355328) (hc0 : w.cell? ⟨g, 0, none⟩ = some (.int .i64 pg)) (hc1 : w.cell? ⟨g, 1, none⟩ = some (.int .i64 wd)) :
    Calls Try.prog 112 #[.slice A l.length c, .func (.func 94) #[] #[.pointer (some ⟨g, 0, none⟩)]] w fun e w' => (∃ r : Int, e = .returned (.int .i64 r) ∧ (0 ≤ r ↔ ∃ p ∈ l, pg / 8 < p.v.size)) ∧ Below w.heap.size w w' := by
  have hg : g < w.heap.size := World.block_lt_of_cell? w _ hc0
  go_enter Try.func112, Try.ntmps112
  go_wp2
  go_loopw [8] (fun i wr => ∃ k : Nat, k ≤ l.length ∧ i = .int .i64 k ∧ Hid (∀ j (h : j < k) (h' : j < l.length), (l[j].v.size : Int) ≤ pg / 8) ∧ Below w.heap.size w wr) (fun i _ => l.length - (intOf i).toNat)
  case atStart => exact ⟨0, Nat.zero_le _, rfl, fun j h => absurd h (by omega), Below.refl _ _⟩
  case round =>
    obtain ⟨k, hk, rfl, hno, hB⟩ := hrel
    have hR' := hR.below hB
    have hc0' := (hB.cell (p := ⟨g, 0, none⟩) hg).trans hc0
    have hc1' := (hB.cell (p := ⟨g, 1, none⟩) hg).trans hc1
    by_cases hlt : k < l.length
    · obtain ⟨ab, ao, rfl, hk0, hk1⟩ := pairs_at hR' hlt
      have hvk := hv _ (List.getElem_mem hlt)
      clear hR hc0 hc1
      by_cases hx : pg / 8 < l[k].v.size
      · have hx1 : decide (pg / 8 < (l[k].v.size : Int)) = true := decide_eq_true hx
        have HX := Lib.hid hx1
        clear hx1
        go_wp2_with (go_at_call 94; refine (check1_c _ _ pg wd g _ h0 h1 hvk hc0' hc1').mono ?_; rw [HX.out]; rintro e w1 ⟨rfl, hb⟩)
        go_ret
        exact ⟨⟨(k : Int), rfl, by constructor; (intro _; exact ⟨_, List.getElem_mem hlt, hx⟩); (intro _; omega)⟩, hB.trans (hb.mono hB.size)⟩
      · have hx1 : decide (pg / 8 < (l[k].v.size : Int)) = false := decide_eq_false hx
        have HX := Lib.hid hx1
        clear hx1
        go_wp2_with (go_at_call 94; refine (check1_c _ _ pg wd g _ h0 h1 hvk hc0' hc1').mono ?_; rw [HX.out]; rintro e w1 ⟨rfl, hb⟩)
        go_roundw
        case rel => exact ⟨k + 1, by omega, by go_num, fun j h h' => by
          by_cases e : j = k
          · subst e; omega
          · exact hno.out j (by omega) h', hB.trans (hb.mono hB.size)⟩
        case measure => simp [intOf]; omega
    · go_wp2
      go_ret
      exact ⟨⟨-1, rfl, by
        constructor
        · intro h; omega
        · rintro ⟨p, hm, hp⟩
          obtain ⟨j, hj, e⟩ := List.getElem_of_mem hm
          subst e
          have := hno.out j (by omega) hj; omega⟩, hB⟩

theorem containsP_c (A : Option Addr) (c : Nat) (l : List PairD) (pg wd : Int) (g : Nat) (w : World) (hR : Rd w 2 A l.length (pcells l)) (hl : l.length * 32 ≤ 140737488355328)
    (h0 : 0 ≤ pg) (h1 : pg ≤ 8192) (hv : ∀ p ∈ l, p.v.size ≤ 140737488355328) (hc0 : w.cell? ⟨g, 0, none⟩ = some (.int .i64 pg)) (hc1 : w.cell? ⟨g, 1, none⟩ = some (.int .i64 wd)) :
    Calls Try.prog 97 #[.slice A l.length c, .func (.func 94) #[] #[.pointer (some ⟨g, 0, none⟩)]] w fun e w' => e = .returned (.bool (decide (∃ p ∈ l, pg / 8 < p.v.size))) ∧ Below w.heap.size w w' := by
  have HV := Lib.hid hv
  clear hv
  go_enter Try.func97, Try.ntmps97
  go_wp2_with (go_at_call 112; refine (indexP_c A c l pg wd g w hR hl h0 h1 HV.out hc0 hc1).mono ?_; rintro e w' ⟨⟨r, rfl, hr⟩, hb⟩; have HR := Lib.hid hr; clear hr)
  go_ret
  exact ⟨ret_eq (show Value.bool (decide (0 ≤ r)) = _ by simp only [HR.out]), hb⟩

theorem indexK_c (A : Option Addr) (c : Nat) (l : List KidD) (wd : Nat) (g : Nat) (w : World) (hR : Rd w 33 A l.length (kcells l)) (hl : l.length * 36 ≤ 140737488355328)
    (h1 : 1 ≤ wd) (h2 : wd ≤ 32) (hs : ∀ k ∈ l, k.sum.length = 32) (hc1 : w.cell? ⟨g, 1, none⟩ = some (.int .i64 wd)) :
    Calls Try.prog 114 #[.slice A l.length c, .func (.func 98) #[] #[.pointer (some ⟨g, 0, none⟩)]] w fun e w' => (∃ r : Int, e = .returned (.int .i64 r) ∧ (0 ≤ r ↔ ∃ k ∈ l, fitsB wd k.sum = false)) ∧ Below w.heap.size w w' := by
  have hg : g < w.heap.size := World.block_lt_of_cell? w _ hc1
  have HS := Lib.hid hs
  clear hs
  go_enter Try.func114, Try.ntmps114
  go_wp2
  go_loopw [8] (fun i wr => ∃ k : Nat, k ≤ l.length ∧ i = .int .i64 k ∧ Hid (∀ j (h : j < k) (h' : j < l.length), fitsB wd l[j].sum = true) ∧ Below w.heap.size w wr) (fun i _ => l.length - (intOf i).toNat)
  case atStart => exact ⟨0, Nat.zero_le _, rfl, fun j h => absurd h (by omega), Below.refl _ _⟩
  case round =>
    obtain ⟨k, hk, rfl, hno, hB⟩ := hrel
    have hR' := hR.below hB
    have hc1' := (hB.cell (p := ⟨g, 1, none⟩) hg).trans hc1
    by_cases hlt : k < l.length
    · obtain ⟨ab, ao, rfl, hk0⟩ := kids_at hR' HS.out hlt
      have hsk := Lib.hid (HS.out _ (List.getElem_mem hlt))
      have HK := Lib.hid hk0
      have hcl : l[k].cells.length = 33 := by simp [KidD.cells, hsk.out]
      have HCL := Lib.hid hcl
      clear hk0 hR hc1 hcl
      cases hx : fitsB wd l[k].sum with
      | false =>
        have HX := Lib.hid hx
        clear hx
        go_wp2_with (first
          | (refine wpList_load_mid rfl 85 (.tmp 14) rfl ab (ao + k * 33) rfl l[k].cells _ HK.out Try.underlying85 rfl (by rw [HCL.out]; exact info85) ?_)
          | (go_at_call 98; refine (check3_c l[k] wd g _ hsk.out h1 h2 hc1').mono ?_; rw [HX.out]; rintro e w1 ⟨rfl, hb⟩))
        go_ret
        exact ⟨⟨(k : Int), rfl, by constructor; (intro _; exact ⟨_, List.getElem_mem hlt, HX.out⟩); (intro _; omega)⟩, hB.trans (hb.mono hB.size)⟩
      | true =>
        have HX := Lib.hid hx
        clear hx
        go_wp2_with (first
          | (refine wpList_load_mid rfl 85 (.tmp 14) rfl ab (ao + k * 33) rfl l[k].cells _ HK.out Try.underlying85 rfl (by rw [HCL.out]; exact info85) ?_)
          | (go_at_call 98; refine (check3_c l[k] wd g _ hsk.out h1 h2 hc1').mono ?_; rw [HX.out]; rintro e w1 ⟨rfl, hb⟩))
        go_roundw
        case rel => exact ⟨k + 1, by omega, by go_num, fun j h h' => by
          by_cases e : j = k
          · subst e; exact HX.out
          · exact hno.out j (by omega) h', hB.trans (hb.mono hB.size)⟩
        case measure => simp [intOf]; omega
    · go_wp2
      go_ret
      exact ⟨⟨-1, rfl, by
        constructor
        · intro h; omega
        · rintro ⟨p, hm, hp⟩
          obtain ⟨j, hj, e⟩ := List.getElem_of_mem hm
          subst e
          have := hno.out j (by omega) hj; rw [this] at hp; cases hp⟩, hB⟩

theorem containsK_c (A : Option Addr) (c : Nat) (l : List KidD) (wd : Nat) (g : Nat) (w : World) (hR : Rd w 33 A l.length (kcells l)) (hl : l.length * 36 ≤ 140737488355328)
    (h1 : 1 ≤ wd) (h2 : wd ≤ 32) (hs : ∀ k ∈ l, k.sum.length = 32) (hc1 : w.cell? ⟨g, 1, none⟩ = some (.int .i64 wd)) :
    Calls Try.prog 100 #[.slice A l.length c, .func (.func 98) #[] #[.pointer (some ⟨g, 0, none⟩)]] w fun e w' => e = .returned (.bool (decide (∃ k ∈ l, fitsB wd k.sum = false))) ∧ Below w.heap.size w w' := by
  have HS := Lib.hid hs
  clear hs
  go_enter Try.func100, Try.ntmps100
  go_wp2_with (go_at_call 114; refine (indexK_c A c l wd g w hR hl h1 h2 HS.out hc1).mono ?_; rintro e w' ⟨⟨r, rfl, hr⟩, hb⟩; have HR := Lib.hid hr; clear hr)
  go_ret
  exact ⟨ret_eq (show Value.bool (decide (0 ≤ r)) = _ by simp only [HR.out]), hb⟩

end Go.Proofs.Ytajkoeodabmgeaa
