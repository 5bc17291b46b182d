import Derived.Test.YtajkoeodabmgeaaB2
import Derived.Deep.RegionLaw
import Derived.Laws.CopyOwn
import Derived.Deep.MidRow
import Derived.Test.YtajkoeodabmgeaaB0e
namespace Go.Proofs.Ytajkoeodabmgeaa
open Go.RowKit
set_option maxHeartbeats 400000
set_option maxRecDepth 100000
attribute [local go_sem] grow_cell grow_frozen grow_size

def fitsB (wd : Int) (ds : List Int) : Bool := decide (∀ j (h : j < ds.length), wd ≤ j → ds[j] = 0)

theorem vD_get (ds : List Int) (j : Nat) (h : j < ds.length) : (vD ds)[j]? = some (.int .u8 ds[j]) := by simp [vD, h]

theorem fitsR_c (wd : Nat) (ds : List Int) (w : World) (hl : ds.length = 32) (h2 : wd ≤ 32) :
    Calls Try.prog 111 #[.int .i64 wd, .agg (vD ds)] w fun e w' => e = .returned (.bool (fitsB wd ds)) ∧ Below w.heap.size w w' := by
  have hcell : ∀ j (h : j < ds.length), (w.alloc (.cells (vD ds) 83)).cell? ⟨w.heap.size, j, none⟩ = some (.int .u8 ds[j]) := fun j h => by
    rw [cell_of_row _ w.heap.size j _ _ _ (heap_alloc_new w _), vD_get ds j h]
  have HC := Lib.hid hcell
  have HL := Lib.hid hl
  clear hcell hl
  go_enter Try.func111, Try.ntmps111
  go_wp2
  go_loop [5] (fun i => ∃ k : Nat, wd ≤ k ∧ k ≤ 32 ∧ i = .int .i64 k ∧ ∀ j (h : j < ds.length), wd ≤ j → j < k → ds[j] = 0) (fun i => 32 - (intOf i).toNat)
  case atStart => exact ⟨wd, Nat.le_refl _, h2, rfl, fun j h h1 h2 => by omega⟩
  case round =>
    obtain ⟨k, hk1, hk2, rfl, hz⟩ := hrel
    have HZ := Lib.hid hz
    clear hz
    by_cases hlt : k < 32
    · have hkl : k < ds.length := by have := HL.out; omega
      have hc := HC.out k hkl
      by_cases h0 : ds[k] = 0
      · have hb : (ds[k] != 0) = false := by simp [h0]
        have H0 := Lib.hid h0
        clear h0
        go_wp2
        go_round
        case rel => exact ⟨k + 1, by omega, by omega, by go_num, fun j h h1 h2 => by
          by_cases e : j = k
          · subst e; exact H0.out
          · exact HZ.out j h h1 (by omega)⟩
        case measure => simp [intOf]; omega
      · have hb : (ds[k] != 0) = true := by simp [h0]
        have H0 := Lib.hid h0
        clear h0
        go_wp2
        go_ret
        exact ⟨ret_eq (show Value.bool false = _ by
          rw [show fitsB wd ds = false from decide_eq_false (fun h => H0.out (h k hkl (by omega)))]), (Below.refl _ _).alloc (Nat.le_refl _) _⟩
    · go_wp2
      go_ret
      exact ⟨ret_eq (show Value.bool true = _ by
          rw [show fitsB wd ds = true from decide_eq_true (fun j h h1 => HZ.out j h (by omega) (by have := HL.out; omega))]), (Below.refl _ _).alloc (Nat.le_refl _) _⟩

def cutD (wd : Nat) (ds : List Int) : List Int := ds.take wd ++ List.replicate (32 - wd) 0

theorem alloc2_at (w : World) (A B : Obj) : ((w.alloc A).alloc B).heap[w.heap.size + 1]? = some B := by
  have := heap_alloc_new (w.alloc A) B
  rwa [show (w.alloc A).heap.size = w.heap.size + 1 by simp] at this
theorem alloc3_at (w : World) (A B C : Obj) : (((w.alloc A).alloc B).alloc C).heap[w.heap.size + 1 + 1]? = some C := by
  have := heap_alloc_new ((w.alloc A).alloc B) C
  rwa [show ((w.alloc A).alloc B).heap.size = w.heap.size + 1 + 1 by simp] at this
theorem alloc3_1 (w : World) (A B C : Obj) : (((w.alloc A).alloc B).alloc C).heap[w.heap.size + 1]? = some B := by
  rw [Below.heap_alloc _ _ _ (by simp), alloc2_at]
theorem alloc3_0 (w : World) (A B C : Obj) : (((w.alloc A).alloc B).alloc C).heap[w.heap.size]? = some A := by
  rw [Below.heap_alloc _ _ _ (by simp; omega), Below.heap_alloc _ _ _ (by simp), heap_alloc_new]

/-- The digest of noughts, as the walk writes it. -/
theorem cut_hg (w : World) (A B : Obj) : ((((w.alloc A).alloc B).alloc (.cells (List.replicate 32 (.int .u8 0)).toArray 83)).drew).heap[w.heap.size + 1 + 1]? = some (.cells (List.replicate 32 (Value.int .u8 0)).toArray 83 (0, 0)) := alloc3_at w A B _

theorem cut_hpos (wd : Nat) (ds : List Int) (w : World) (B C : Obj) (j : Nat) (v : Value) (h : ((ds.take wd).map (Value.int .u8))[j]? = some v) :
    ((((w.alloc (.cells (vD ds) 83)).alloc B).alloc C).drew).cell? ((⟨w.heap.size, 0, none⟩ : Addr).add j) = some v := by
  rw [Addr.add_mid, Nat.zero_add]
  show (((w.alloc (.cells (vD ds) 83)).alloc B).alloc C).cell? _ = _
  rw [cell_of_row _ w.heap.size j (vD ds) 83 (0, 0) (alloc3_0 w _ B C)]
  simp only [List.getElem?_map, Option.map_eq_some_iff] at h
  obtain ⟨x, hx, rfl⟩ := h
  rw [List.getElem?_take] at hx
  split at hx
  · simp [vD, hx]
  · cases hx

theorem cut_one (wd : Nat) (ds : List Int) : ∀ v ∈ (ds.take wd).map (Value.int .u8), v.oneCell' = true := by
  intro v hv
  obtain ⟨x, _, rfl⟩ := List.mem_map.1 hv
  rfl

theorem cut_splice (wd : Nat) (ds : List Int) (hl : ds.length = 32) (h2 : wd ≤ 32) :
    (splice (List.replicate 32 (Value.int .u8 0)) 0 ((ds.take wd).map (Value.int .u8))).toArray = vD (cutD wd ds) := by
  unfold splice vD cutD
  congr 1
  simp only [List.take_zero, List.nil_append, List.map_append, List.map_replicate, Nat.zero_add, List.length_map, List.length_take, hl, List.drop_replicate]
  rw [Nat.min_eq_left h2]

theorem cutD_size (wd : Nat) (ds : List Int) (hl : ds.length = 32) (h2 : wd ≤ 32) : (vD (cutD wd ds)).size = 32 := by
  simp [vD, cutD, hl]; omega
theorem info83 : (Try.prog.info? 83).map (·.size) = some 32 := by kernel_rfl
theorem vD_one (ds : List Int) : (vD ds).all (·.oneCell') = true := by
  unfold vD
  exact Array.all_eq_true_iff_forall_mem.2 (fun v hv => by
    obtain ⟨x, _, rfl⟩ := List.mem_map.1 (by simpa using hv : v ∈ ds.map (Value.int .u8))
    rfl)

theorem cut_c (wd : Nat) (ds : List Int) (w : World) (hl : ds.length = 32) (h1 : 1 ≤ wd) (h2 : wd ≤ 32) :
    Calls Try.prog 113 #[.int .i64 wd, .agg (vD ds)] w fun e w' => e = .returned (.tuple #[.agg (vD (cutD wd ds)), .int .i64 0]) ∧ Below w.heap.size w w' := by
  have hw : decide (1 ≤ (wd : Int) ∧ (wd : Int) ≤ 32) = true := decide_eq_true ⟨by omega, by omega⟩
  have HW := Lib.hid hw
  have HL := Lib.hid hl
  clear hw hl
  have h83 : Try.prog.arrayLen 83 = 32 := by kernel_rfl
  have hwi : (wd : Int) ≤ 32 := by omega
  have hw0 : 0 ≤ (wd : Int) := by omega
  have hz1 : Try.prog.elem 83 = 5 := by kernel_rfl
  go_enter Try.func113, Try.ntmps113
  go_wp2_with (go_at_call 115; refine (wide_c (wd : Int) _).mono ?_; rw [HW.out]; rintro e w1 ⟨rfl, rfl⟩)
  go_region_law (refine step_copy_splice rfl (.tmp 12) (.tmp 14) 118 118 rfl 5 Try.underlying118 (by kernel_rfl) (some ⟨w.heap.size + 1 + 1, 0, none⟩) (some ⟨w.heap.size, 0, none⟩) wd 32 wd 32 rfl rfl (w.heap.size + 1 + 1) 0 (List.replicate 32 (.int .u8 0)) 83 (cut_hg w _ _) ((ds.take wd).map (.int .u8)) ?hn (fun _ => ⟨rfl, _, rfl, fun j v h => cut_hpos wd ds w _ _ j v h⟩) ?hfit (cut_one wd ds) (w.heap.size + 1 + 1) _ ((Below.refl _ _)) (Nat.le_refl _) ?_; (case hn => have := HL.out; simp [Nat.min_def]; omega); (case hfit => have := HL.out; simp; omega); intro w1 hw1 hb1)
  have hg6 : w1.heap[w.heap.size + 1 + 1]? = some (.cells (vD (cutD wd ds)) 83 (0, 0)) := by rw [← cut_splice wd ds HL.out h2]; exact hw1.out
  have hg4 : w1.heap[w.heap.size + 1]? = some (.cells (List.replicate 32 (Value.int .u8 0)).toArray 83 (0, 0)) := (hb1.block _ (by omega)).trans (alloc3_1 w _ _ _)
  have hsz := cutD_size wd ds HL.out h2
  have hbw : Below w.heap.size w w1 := ((((Below.refl _ _).alloc (Nat.le_refl _) _).alloc (by simp) _).alloc (by simp; omega) _).drew.trans (hb1.mono (by omega))
  have HG6 := Lib.hid hg6
  have HG4 := Lib.hid hg4
  clear hg6 hg4 hw1 hb1
  go_wp2_with (first
    | (refine wpList_load_row rfl 83 (.tmp 6) rfl (w.heap.size + 1 + 1) rfl 83 (vD (cutD wd ds)) (0, 0) _ HG6.out Try.underlying83 rfl (by rw [hsz]; exact info83) ?_)
    | (refine wpList_store_row rfl 83 (.tmp 4) (.tmp 16) rfl (w.heap.size + 1) (vD (cutD wd ds)) rfl rfl 83 _ HG4.out (by rw [hsz]; exact info83) (by rw [hsz]; rfl) (vD_one _) ?_))
  exact bodyPost_ret (results_ct rfl _ _ (w.heap.size + 1) 83 (vD (cutD wd ds)) (0, 0) _ rfl (setRow_block _ _ _ _ _ _ HG4.out) Try.underlying83 rfl (by rw [hsz]; exact info83)) rfl ⟨rfl, below_setRow hbw (by omega) _⟩


theorem cut_fits (wd : Nat) (ds : List Int) (hl : ds.length = 32) (h2 : wd ≤ 32) : cutD wd ds = ds ↔ fitsB wd ds = true := by
  unfold fitsB
  rw [decide_eq_true_iff]
  constructor
  · intro h j hj hw
    have h1 : (cutD wd ds)[j]? = some ds[j] := by rw [h]; exact List.getElem?_eq_getElem hj
    unfold cutD at h1
    rw [List.getElem?_append_right (by simp; omega)] at h1
    rw [List.getElem?_replicate] at h1
    split at h1
    · simpa using h1.symm
    · cases h1
  · intro h
    apply List.ext_getElem?
    intro j
    unfold cutD
    rw [List.getElem?_append]
    simp only [List.length_take, hl, Nat.min_eq_left h2]
    split
    · rw [List.getElem?_take, if_pos (by assumption)]
    · rename_i hj
      rw [List.getElem?_replicate]
      by_cases hj2 : j < ds.length
      · rw [if_pos (by omega), List.getElem?_eq_getElem hj2, h j hj2 (by omega)]
      · rw [if_neg (by omega), List.getElem?_eq_none (by omega)]

theorem cutD_length (wd : Nat) (ds : List Int) (hl : ds.length = 32) (h2 : wd ≤ 32) : (cutD wd ds).length = 32 := by
  simp [cutD, hl]; omega

/-- A load of a digest, guarded or not. -/
theorem wpList_load83 {ops : Array Oper} {rest : List Oper} {o : Oper} {a : Act} {w : World} {Q : Exit → Act → World → Prop} (hw : Region.wanted o (yielded ops a.tmps) = true) (x : Operand) (ho : o.op = .load 83 x)
    (g : Nat) (hx : a.eval x = .pointer (some ⟨g, 0, none⟩)) (ds : List Int) (hl : ds.length = 32) (hg : w.heap[g]? = some (.cells (vD ds) 83 (0, 0)))
    (h : wpList Try.prog ops Q rest (a.put o.dst (.agg (vD ds))) w) : wpList Try.prog ops Q (o :: rest) a w :=
  BigFrame.wpList_want hw fun _ hK => wp_load_row 83 x ho g hx 83 (vD ds) (0, 0) _ hg Try.underlying83 rfl (by rw [vD_size _ hl]; exact info83) (hK _ _ h)

theorem fits_w2 {w w1 : World} {ds cs : List Int} (Z : Array Value) (hb : Below (w.alloc (.cells (vD ds) 83)).heap.size (w.alloc (.cells (vD ds) 83)) w1) :
    ∃ w2, ((w1.alloc (.cells Z 83)).setRow w1.heap.size (vD cs)) = w2 ∧
      (Hid (w2.heap[w1.heap.size]? = some (.cells (vD cs) 83 (0, 0))) ∧ Hid (w2.heap[w.heap.size]? = some (.cells (vD ds) 83 (0, 0)))) ∧ Below w.heap.size w w2 := by
  have hlt := hb.size
  simp only [World.size_alloc] at hlt
  have h5 := setRow_block _ _ (vD cs) _ _ _ (heap_alloc_new w1 (.cells Z 83))
  have h3 := (setRow_other (w1.alloc (.cells Z 83)) w1.heap.size w.heap.size (vD cs) (by omega)).trans ((Below.heap_alloc _ _ _ (by omega)).trans ((hb.block _ (by simp)).trans (heap_alloc_new w _)))
  exact ⟨_, rfl, ⟨h5, h3⟩, below_setRow ((below_a hb).alloc (by omega) _) (by omega) _⟩

theorem sumsFits_c (wd : Nat) (ds : List Int) (w : World) (hl : ds.length = 32) (h1 : 1 ≤ wd) (h2 : wd ≤ 32) :
    Calls Try.prog 99 #[.int .i64 wd, .agg (vD ds)] w fun e w' => e = .returned (.bool (fitsB wd ds)) ∧ Below w.heap.size w w' := by
  have heq := fun W => eql_vD (cutD wd ds) ds (cutD_length wd ds hl h2) hl W
  have hfin : decide (cutD wd ds = ds) = fitsB wd ds := by rw [Bool.eq_iff_iff, decide_eq_true_iff, cut_fits wd ds hl h2]
  have hsz : (vD (cutD wd ds)).size = 32 := vD_size _ (cutD_length wd ds hl h2)
  have HL := Lib.hid hl
  have HF := Lib.hid hfin
  have HS := Lib.hid hsz
  clear hl hfin hsz
  go_enter Try.func99, Try.ntmps99
  go_wp2_with (first
    | (refine wpList_load83 (o := ⟨some 9, _, _, _, _, _⟩) rfl (.tmp 3) rfl w.heap.size rfl ds HL.out (heap_alloc_new _ _) ?_)
    | (go_at_call 113; refine (cut_c wd ds _ HL.out h1 h2).mono ?_; rintro e w1 ⟨rfl, hb⟩)
    | (refine wpList_store_row rfl 83 (.tmp 5) (.tmp 11) rfl w1.heap.size (vD (cutD wd ds)) rfl rfl 83 _ (heap_alloc_new _ _) (by rw [HS.out]; exact info83) (by rw [HS.out]; rfl) (vD_one _) ?_
       obtain ⟨w2, hw2, ⟨h5, h3⟩, hb2⟩ := fits_w2 (w := w) (w1 := w1) (cs := cutD wd ds) _ hb
       rw [hw2]
       clear hw2 hb)
    | (refine wpList_load83 (o := ⟨some 16, _, _, _, _, _⟩) rfl (.tmp 5) rfl w1.heap.size rfl (cutD wd ds) (cutD_length wd ds HL.out h2) h5.out ?_)
    | (refine wpList_load83 (o := ⟨some 17, _, _, _, _, _⟩) rfl (.tmp 3) rfl w.heap.size rfl ds HL.out h3.out ?_))
  go_ret
  exact ⟨ret_eq (show Value.bool (decide (cutD wd ds = ds)) = _ by rw [HF.out]), hb2⟩

end Go.Proofs.Ytajkoeodabmgeaa
