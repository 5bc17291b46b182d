import Derived.Test.YtonjgedhmmnolaaGreatDoorZY8
import Derived.Test.YtonjgedhmmnolaaGreatDoorZY8c
import Derived.Test.YtonjgedhmmnolaaGreatDoorZY7
namespace Go.Proofs.YtonjgedhmmnolaaGreatDoor
section
open Go.RowKit
set_option maxHeartbeats 2000000
set_option maxRecDepth 100000
theorem read_c [Inhabited Thr] : ∀ r,ReadIH r:=by
 intro r
 induction r with
 | zero =>
   intro l d w hd hl
   have hd9 : d = 9:=by omega
   subst hd9
   rw [redI_0]
   obtain ⟨W0,hW0⟩ : ∃ W0,w.alloc (.cells (c6 0 false 0 0 ⟨#[]⟩ none 0 0) 54) = W0:=⟨_,rfl⟩
   have HW0:=Ld hW0
   have HR0:=Ld (show W0.heap[w.heap.size]? = some (.cells (c6 0 false 0 0 ⟨#[]⟩ none 0 0) 54 (0,0)) by rw [← hW0];exact heap_alloc_new w _)
   have HB0:=Ld (show Below w.heap.size w W0 by rw [← hW0];exact (Below.refl _ _).alloc (Nat.le_refl _) _)
   clear hW0
   go_enter Tryz.func132,Tryz.ntmps132
   go_upto_region 1 with fail
   rw [show w.alloc (.cells #[.int .u8 0,.bool false,.int .i64 0,.float .f64 0,.string ⟨#[]⟩,.slice none 0 0] 54) = W0 from HW0.out]
   go_wp2_with (refine wpList_store_row rfl 54 (.tmp 4) (.tmp 17) rfl w.heap.size (c6 0 false 0 0 ⟨#[]⟩ none 0 0) rfl rfl 54 _ HR0.out (by kernel_rfl) rfl (one6 _ _ _ _ _ _ _ _) ?_)
   all_goals
    refine bodyPost_ret (results_ctt rfl _ _ w.heap.size 54 _ (0,0) _ rfl (setRow_block _ _ _ _ _ _ (HR0.out)) Tryz.underlying54 rfl (by kernel_rfl)) rfl ⟨below_setRow (HB0.out) (Nat.le_refl _) _,?_⟩
    rfl
 | succ r ih =>
   intro l d w hd hl
   cases l with
   | nil =>
     have hd8 : d ≤ 8:=by omega
     rw [redI_nil]
     obtain ⟨W0,hW0⟩ : ∃ W0,w.alloc (.cells (c6 0 false 0 0 ⟨#[]⟩ none 0 0) 54) = W0:=⟨_,rfl⟩
     have HW0:=Ld hW0
     have HR0:=Ld (show W0.heap[w.heap.size]? = some (.cells (c6 0 false 0 0 ⟨#[]⟩ none 0 0) 54 (0,0)) by rw [← hW0];exact heap_alloc_new w _)
     have HB0:=Ld (show Below w.heap.size w W0 by rw [← hW0];exact (Below.refl _ _).alloc (Nat.le_refl _) _)
     have hem : ((⟨([] : List UInt8).toArray⟩ : ByteArray).toList == []) = true:=by rw [ByteArray.toList_eq];rfl
     clear hW0
     go_enter Tryz.func132,Tryz.ntmps132
     go_upto_region 1 with fail
     rw [show w.alloc (.cells #[.int .u8 0,.bool false,.int .i64 0,.float .f64 0,.string ⟨#[]⟩,.slice none 0 0] 54) = W0 from HW0.out]
     go_wp2_with (refine wpList_store_row rfl 54 (.tmp 4) (.tmp 17) rfl w.heap.size (c6 0 false 0 0 ⟨#[]⟩ none 0 0) rfl rfl 54 _ HR0.out (by kernel_rfl) rfl (one6 _ _ _ _ _ _ _ _) ?_)
     refine bodyPost_ret (results_ctt rfl _ _ w.heap.size 54 _ (0,0) _ rfl (setRow_block _ _ _ _ _ _ (HR0.out)) Tryz.underlying54 rfl (by kernel_rfl)) rfl ⟨below_setRow (HB0.out) (Nat.le_refl _) _,?_⟩
     rfl
   | cons t s =>
     by_cases h1 : t = 1
     ·exact readK1_c r t s d w hd hl h1
     by_cases h2 : t = 2
     ·exact readK2_c r t s d w hd hl h2
     by_cases h3 : t = 3
     ·exact readK3_c r t s d w hd hl h3
     by_cases h4 : 12 ≤ t.toNat ∧ t.toNat ≤ 28
     ·have hi : t = 12 ∨ t = 13 ∨ t = 14 ∨ t = 15 ∨ t = 16 ∨ t = 17 ∨ t = 18 ∨ t = 19 ∨ t = 20 ∨ t = 21 ∨ t = 22 ∨ t = 23 ∨ t = 24 ∨ t = 25 ∨ t = 26 ∨ t = 27 ∨ t = 28:=by
        have hu : ∀ c : UInt8,t.toNat = c.toNat → t = c:=fun c h => UInt8.toNat_inj.1 h
        rcases (show t.toNat = 12 ∨ t.toNat = 13 ∨ t.toNat = 14 ∨ t.toNat = 15 ∨ t.toNat = 16 ∨ t.toNat = 17 ∨ t.toNat = 18 ∨ t.toNat = 19 ∨ t.toNat = 20 ∨ t.toNat = 21 ∨ t.toNat = 22 ∨ t.toNat = 23 ∨ t.toNat = 24 ∨ t.toNat = 25 ∨ t.toNat = 26 ∨ t.toNat = 27 ∨ t.toNat = 28 by omega) with h | h | h | h | h | h | h | h | h | h | h | h | h | h | h | h | h
        ·exact .inl (hu 12 h)
        ·exact .inr (.inl (hu 13 h))
        ·exact .inr (.inr (.inl (hu 14 h)))
        ·exact .inr (.inr (.inr (.inl (hu 15 h))))
        ·exact .inr (.inr (.inr (.inr (.inl (hu 16 h)))))
        ·exact .inr (.inr (.inr (.inr (.inr (.inl (hu 17 h))))))
        ·exact .inr (.inr (.inr (.inr (.inr (.inr (.inl (hu 18 h)))))))
        ·exact .inr (.inr (.inr (.inr (.inr (.inr (.inr (.inl (hu 19 h))))))))
        ·exact .inr (.inr (.inr (.inr (.inr (.inr (.inr (.inr (.inl (hu 20 h)))))))))
        ·exact .inr (.inr (.inr (.inr (.inr (.inr (.inr (.inr (.inr (.inl (hu 21 h))))))))))
        ·exact .inr (.inr (.inr (.inr (.inr (.inr (.inr (.inr (.inr (.inr (.inl (hu 22 h)))))))))))
        ·exact .inr (.inr (.inr (.inr (.inr (.inr (.inr (.inr (.inr (.inr (.inr (.inl (hu 23 h))))))))))))
        ·exact .inr (.inr (.inr (.inr (.inr (.inr (.inr (.inr (.inr (.inr (.inr (.inr (.inl (hu 24 h)))))))))))))
        ·exact .inr (.inr (.inr (.inr (.inr (.inr (.inr (.inr (.inr (.inr (.inr (.inr (.inr (.inl (hu 25 h))))))))))))))
        ·exact .inr (.inr (.inr (.inr (.inr (.inr (.inr (.inr (.inr (.inr (.inr (.inr (.inr (.inr (.inl (hu 26 h)))))))))))))))
        ·exact .inr (.inr (.inr (.inr (.inr (.inr (.inr (.inr (.inr (.inr (.inr (.inr (.inr (.inr (.inr (.inl (hu 27 h))))))))))))))))
        ·exact .inr (.inr (.inr (.inr (.inr (.inr (.inr (.inr (.inr (.inr (.inr (.inr (.inr (.inr (.inr (.inr ((hu 28 h)))))))))))))))))
      rcases hi with h | h | h | h | h | h | h | h | h | h | h | h | h | h | h | h | h
      ·exact readI12_c r t s d w hd hl h
      ·exact readI13_c r t s d w hd hl h
      ·exact readI14_c r t s d w hd hl h
      ·exact readI15_c r t s d w hd hl h
      ·exact readI16_c r t s d w hd hl h
      ·exact readI17_c r t s d w hd hl h
      ·exact readI18_c r t s d w hd hl h
      ·exact readI19_c r t s d w hd hl h
      ·exact readI20_c r t s d w hd hl h
      ·exact readI21_c r t s d w hd hl h
      ·exact readI22_c r t s d w hd hl h
      ·exact readI23_c r t s d w hd hl h
      ·exact readI24_c r t s d w hd hl h
      ·exact readI25_c r t s d w hd hl h
      ·exact readI26_c r t s d w hd hl h
      ·exact readI27_c r t s d w hd hl h
      ·exact readI28_c r t s d w hd hl h
     by_cases h5 : t = 32 ∧ 8 ≤ s.length
     ·exact readF_c r t s d w hd hl h5.1 h5.2
     by_cases h6 : t = 36
     ·exact readT_c r t s d w hd hl h6
     by_cases h7 : t = 40
     ·exact readL_c r ih t s d w hd hl h7
     exact readN_c r t s d w hd hl h1 h2 h3 h4 h5 h6 h7
end
end Go.Proofs.YtonjgedhmmnolaaGreatDoor
