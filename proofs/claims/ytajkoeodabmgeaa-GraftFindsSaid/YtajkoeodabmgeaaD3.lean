import Derived.Test.YtajkoeodabmgeaaB0p
import Derived.Test.YtajkoeodabmgeaaC6
namespace Go.Proofs.Ytajkoeodabmgeaa
open Go.RowKit
set_option maxHeartbeats 2000000
set_option maxRecDepth 100000

theorem info85' : (Try.prog.info? 85).map (fun i => (i.zero, i.size, i.bytes)) = some (some (.agg (.int .u32 0 :: List.replicate 32 (.int .u8 0)).toArray), 33, 36) := by kernel_rfl

theorem elem25 : Try.prog.underlying 25 = some (.slice (Try.prog.elem 25)) := by kernel_rfl
theorem elem26 : Try.prog.underlying 26 = some (.slice (Try.prog.elem 26)) := by kernel_rfl
theorem elem27 : Try.prog.underlying 27 = some (.slice (Try.prog.elem 27)) := by kernel_rfl
theorem sizeP (W : World) : (sizeOf (Try.prog.elem 25)).run Try.prog W = .ok 2 W := by kernel_rfl
theorem sizeS (W : World) : (sizeOf (Try.prog.elem 26)).run Try.prog W = .ok 1 W := by kernel_rfl
theorem sizeK (W : World) : (sizeOf (Try.prog.elem 27)).run Try.prog W = .ok 33 W := by kernel_rfl

theorem putP_c (A Ai : Option Addr) (n c m ci at_ many : Nat) (xs ys : List Value) (w : World) (hR : Rd w 2 A n xs) (hI : Rd w 2 Ai m ys) (hc : n ≤ c) (h : at_ + many ≤ n)
    (hb : (n + m) * 32 ≤ 140737488355328) (hx1 : ∀ u ∈ xs, u.oneCell' = true) (hy1 : ∀ u ∈ ys, u.oneCell' = true) :
    Calls Try.prog 65 #[.slice A n c, .int .i64 at_, .int .i64 many, .slice Ai m ci] w fun e w' =>
      (∃ v, e = .returned v ∧ w'.ownsRow w.heap.size 31 2 v (n - many + m) (xs.take (at_ * 2) ++ ys ++ xs.drop ((at_ + many) * 2))) ∧ Below w.heap.size w w' := by
  obtain ⟨i0, hi, hz0, hz1, hz2⟩ := info_parts info31
  have hs1 := hR.take (k := at_) (by omega)
  obtain ⟨A', hsl, hs2⟩ := slice_from 25 2 elem25 sizeP A n c (at_ + many) ((at_ : Int) + (many : Int)) (by omega) h hc
  have hs2 := hs2 w xs hR
  have HX := Lib.hid hx1
  have HY := Lib.hid hy1
  have HS1 := Lib.hid hs1
  have HS2 := Lib.hid hs2
  clear hx1 hy1 hs1 hs2 hR
  go_enter Try.func65, Try.ntmps65
  go_wp2_with (first
    | (refine wpList_mk rfl (.const (.int .i64 0)) (.tmp 16) 25 rfl w.heap.size 31 Try.underlying25 hi hz0 hz1 hz2 .i64 .i64 _ rfl rfl (by omega) (by omega) (by omega) (Nat.le_refl _) ?_; intro v1 w1 hown1 hb1 hob1)
    | (at_builtin; refine wpList_append_rd rfl (.tmp 18) (.tmp 21) 25 rfl w.heap.size 31 Try.underlying25 hi hz0 hz1 hz2 rfl (by decide) rfl hown1 rfl (HS1.out.below hb1) (fun u hu => HX.out u (List.mem_of_mem_take hu)) (by omega) (by decide) hb1.size ?_; intro v2 w2 hown2 hg2 _; have hb2 := hb1.grown hg2 hb1.size (fun k e => (hown1.lt k e).1); clear hg2)
    | (at_builtin; refine wpList_append_rd rfl (.tmp 23) (.tmp 24) 25 rfl w.heap.size 31 Try.underlying25 hi hz0 hz1 hz2 rfl (by decide) rfl hown2 rfl (hI.below hb2) HY.out (by omega) (by decide) hb2.size ?_; intro v3 w3 hown3 hg3 _; have hb3 := hb2.grown hg3 hb2.size (fun k e => (hown2.lt k e).1); clear hg3)
    | (at_builtin; refine wpList_append_rd rfl (.tmp 26) (.tmp 31) 25 rfl w.heap.size 31 Try.underlying25 hi hz0 hz1 hz2 rfl (by decide) rfl hown3 rfl (HS2.out.below hb3) (fun u hu => HX.out u (List.mem_of_mem_drop hu)) (by omega) (by decide) hb3.size ?_; intro v4 w4 hown4 hg4 _; have hb4 := hb3.grown hg4 hb3.size (fun k e => (hown3.lt k e).1); clear hg4))
  go_ret
  exact ⟨⟨v4, rfl, by rw [show n - many + m = 0 + at_ + m + (n - (at_ + many)) by omega]; simpa using hown4⟩, hb4⟩

theorem putK_c (A Ai : Option Addr) (n c m ci at_ many : Nat) (xs ys : List Value) (w : World) (hR : Rd w 33 A n xs) (hI : Rd w 33 Ai m ys) (hc : n ≤ c) (h : at_ + many ≤ n)
    (hb : (n + m) * 36 ≤ 140737488355328) (hx1 : ∀ u ∈ xs, u.oneCell' = true) (hy1 : ∀ u ∈ ys, u.oneCell' = true) :
    Calls Try.prog 85 #[.slice A n c, .int .i64 at_, .int .i64 many, .slice Ai m ci] w fun e w' =>
      (∃ v, e = .returned v ∧ w'.ownsRow w.heap.size 85 33 v (n - many + m) (xs.take (at_ * 33) ++ ys ++ xs.drop ((at_ + many) * 33))) ∧ Below w.heap.size w w' := by
  obtain ⟨i0, hi, hz0, hz1, hz2⟩ := info_parts info85'
  have hs1 := hR.take (k := at_) (by omega)
  obtain ⟨A', hsl, hs2⟩ := slice_from 27 33 elem27 sizeK A n c (at_ + many) ((at_ : Int) + (many : Int)) (by omega) h hc
  have hs2 := hs2 w xs hR
  have HX := Lib.hid hx1
  have HY := Lib.hid hy1
  have HS1 := Lib.hid hs1
  have HS2 := Lib.hid hs2
  clear hx1 hy1 hs1 hs2 hR
  go_enter Try.func85, Try.ntmps85
  go_wp2_with (first
    | (refine wpList_mk rfl (.const (.int .i64 0)) (.tmp 16) 27 rfl w.heap.size 85 Try.underlying27 hi hz0 hz1 hz2 .i64 .i64 _ rfl rfl (by omega) (by omega) (by omega) (Nat.le_refl _) ?_; intro v1 w1 hown1 hb1 hob1)
    | (at_builtin; refine wpList_append_rd rfl (.tmp 18) (.tmp 21) 27 rfl w.heap.size 85 Try.underlying27 hi hz0 hz1 hz2 rfl (by decide) rfl hown1 rfl (HS1.out.below hb1) (fun u hu => HX.out u (List.mem_of_mem_take hu)) (by omega) (by decide) hb1.size ?_; intro v2 w2 hown2 hg2 _; have hb2 := hb1.grown hg2 hb1.size (fun k e => (hown1.lt k e).1); clear hg2)
    | (at_builtin; refine wpList_append_rd rfl (.tmp 23) (.tmp 24) 27 rfl w.heap.size 85 Try.underlying27 hi hz0 hz1 hz2 rfl (by decide) rfl hown2 rfl (hI.below hb2) HY.out (by omega) (by decide) hb2.size ?_; intro v3 w3 hown3 hg3 _; have hb3 := hb2.grown hg3 hb2.size (fun k e => (hown2.lt k e).1); clear hg3)
    | (at_builtin; refine wpList_append_rd rfl (.tmp 26) (.tmp 31) 27 rfl w.heap.size 85 Try.underlying27 hi hz0 hz1 hz2 rfl (by decide) rfl hown3 rfl (HS2.out.below hb3) (fun u hu => HX.out u (List.mem_of_mem_drop hu)) (by omega) (by decide) hb3.size ?_; intro v4 w4 hown4 hg4 _; have hb4 := hb3.grown hg4 hb3.size (fun k e => (hown3.lt k e).1); clear hg4))
  go_ret
  exact ⟨⟨v4, rfl, by rw [show n - many + m = 0 + at_ + m + (n - (at_ + many)) by omega]; simpa using hown4⟩, hb4⟩

theorem putS_c (A Ai : Option Addr) (n c m ci at_ many : Nat) (xs ys : List Value) (w : World) (hR : Rd w 1 A n xs) (hI : Rd w 1 Ai m ys) (hc : n ≤ c) (h : at_ + many ≤ n)
    (hb : (n + m) * 16 ≤ 140737488355328) (hx1 : ∀ u ∈ xs, u.oneCell' = true) (hy1 : ∀ u ∈ ys, u.oneCell' = true) :
    Calls Try.prog 86 #[.slice A n c, .int .i64 at_, .int .i64 many, .slice Ai m ci] w fun e w' =>
      (∃ v, e = .returned v ∧ w'.ownsRow w.heap.size 9 1 v (n - many + m) (xs.take (at_ * 1) ++ ys ++ xs.drop ((at_ + many) * 1))) ∧ Below w.heap.size w w' := by
  obtain ⟨i0, hi, hz0, hz1, hz2⟩ := info_parts info9
  have hs1 := hR.take (k := at_) (by omega)
  obtain ⟨A', hsl, hs2⟩ := slice_from 26 1 elem26 sizeS A n c (at_ + many) ((at_ : Int) + (many : Int)) (by omega) h hc
  have hs2 := hs2 w xs hR
  have HX := Lib.hid hx1
  have HY := Lib.hid hy1
  have HS1 := Lib.hid hs1
  have HS2 := Lib.hid hs2
  clear hx1 hy1 hs1 hs2 hR
  go_enter Try.func86, Try.ntmps86
  go_wp2_with (first
    | (refine wpList_mk rfl (.const (.int .i64 0)) (.tmp 16) 26 rfl w.heap.size 9 Try.underlying26 hi hz0 hz1 hz2 .i64 .i64 _ rfl rfl (by omega) (by omega) (by omega) (Nat.le_refl _) ?_; intro v1 w1 hown1 hb1 hob1)
    | (at_builtin; refine wpList_append_rd rfl (.tmp 18) (.tmp 21) 26 rfl w.heap.size 9 Try.underlying26 hi hz0 hz1 hz2 rfl (by decide) rfl hown1 rfl (HS1.out.below hb1) (fun u hu => HX.out u (List.mem_of_mem_take hu)) (by omega) (by decide) hb1.size ?_; intro v2 w2 hown2 hg2 _; have hb2 := hb1.grown hg2 hb1.size (fun k e => (hown1.lt k e).1); clear hg2)
    | (at_builtin; refine wpList_append_rd rfl (.tmp 23) (.tmp 24) 26 rfl w.heap.size 9 Try.underlying26 hi hz0 hz1 hz2 rfl (by decide) rfl hown2 rfl (hI.below hb2) HY.out (by omega) (by decide) hb2.size ?_; intro v3 w3 hown3 hg3 _; have hb3 := hb2.grown hg3 hb2.size (fun k e => (hown2.lt k e).1); clear hg3)
    | (at_builtin; refine wpList_append_rd rfl (.tmp 26) (.tmp 31) 26 rfl w.heap.size 9 Try.underlying26 hi hz0 hz1 hz2 rfl (by decide) rfl hown3 rfl (HS2.out.below hb3) (fun u hu => HX.out u (List.mem_of_mem_drop hu)) (by omega) (by decide) hb3.size ?_; intro v4 w4 hown4 hg4 _; have hb4 := hb3.grown hg4 hb3.size (fun k e => (hown3.lt k e).1); clear hg4))
  go_ret
  exact ⟨⟨v4, rfl, by rw [show n - many + m = 0 + at_ + m + (n - (at_ + many)) by omega]; simpa using hown4⟩, hb4⟩

end Go.Proofs.Ytajkoeodabmgeaa
