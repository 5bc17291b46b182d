import Derived.Test.YtonjgedhmmnolaaGreatDoorZ11
namespace Go.Proofs.YtonjgedhmmnolaaGreatDoor
section
open Go.RowKit
set_option maxHeartbeats 2000000
set_option maxRecDepth 100000
theorem nameC_eq (k : Nat) (c : UInt8) : nameC k c = ((decide ((97 : Int) ≤ c.toNat) && decide ((c.toNat : Int) ≤ 122)) || (!decide (k = 0) && ((!decide ((c.toNat : Int) < 48) && !decide ((57 : Int) < c.toNat)) || decide ((c.toNat : Int) = 95)))):=by
 rw [Bool.eq_iff_iff]
 simp only [nameC,Bool.or_eq_true,Bool.and_eq_true,Bool.not_eq_true',decide_eq_true_eq,decide_eq_false_iff_not]
 omega
theorem refName_c (s : ByteArray) (w : World) (hs : s.size ≤ 140737488355328) : Calls Tryz.prog 96 #[.string s] w fun e w' => e = .returned (.bool (nameB s.data.toList)) ∧ w = w':=by
 have HL:=Ld (show s.data.toList.length = s.size by rw [Array.length_toList];rfl)
 by_cases h0 : s.size < 1
 ·have HN:=Ld (show nameB s.data.toList = false by have:=HL.out;simp [nameB];omega)
  go_enter Tryz.func96,Tryz.ntmps96
  go_wp2
  go_ret
  exact ⟨ret_eq (by rw [HN.out];rfl),rfl⟩
 ·by_cases h1 : 16 < s.size
  ·have HN:=Ld (show nameB s.data.toList = false by have:=HL.out;simp [nameB];omega)
   go_enter Tryz.func96,Tryz.ntmps96
   go_wp2
   go_ret
   exact ⟨ret_eq (by rw [HN.out];rfl),rfl⟩
  ·have HN:=Ld (show nameB s.data.toList = nameL 0 s.data.toList by have:=HL.out;simp only [nameB];rw [decide_eq_true (by omega),decide_eq_true (by omega)];rfl)
   go_enter Tryz.func96,Tryz.ntmps96
   go_wp2
   go_loopw [3] (fun i wr => ∃ k : Nat,k ≤ s.size ∧ i = .int .i64 k ∧ Hid (nameL 0 s.data.toList = nameL k (s.data.toList.drop k)) ∧ w = wr) (fun i _ => s.size - (intOf i).toNat)
   case atStart => exact ⟨0,Nat.zero_le _,rfl,rfl,rfl⟩
   case round =>
    obtain ⟨k,hk,rfl,hn,hw⟩:=hrel
    subst hw
    by_cases hlt : k < s.size
    ·have HND:=Ld (nameL_drop s.data.toList k (by have:=HL.out;omega))
     have HGE:=Ld (show s.data.toList[k]'(by have:=HL.out;omega) = s[k] from rfl)
     obtain ⟨kz,hkz⟩ : ∃ z,decide (k = 0) = z:=⟨_,rfl⟩
     have e0 : ((k : Int) == 0) = kz:=by rw [← hkz];by_cases h : k = 0 <;> simp [h]
     have HC:=Ld (show nameC k s[k] = ((decide ((97 : Int) ≤ s[k].toNat) && decide ((s[k].toNat : Int) ≤ 122)) || (!kz && ((!decide ((s[k].toNat : Int) < 48) && !decide ((57 : Int) < s[k].toNat)) || decide ((s[k].toNat : Int) = 95)))) by rw [← hkz];exact nameC_eq k s[k])
     clear hkz
     obtain ⟨cz,hcz⟩ : ∃ z,decide ((s[k].toNat : Int) = 95) = z:=⟨_,rfl⟩
     have e3 : ((s[k].toNat : Int) != 95) = !cz:=by rw [← hcz];by_cases h : (s[k].toNat : Int) = 95 <;> simp [h]
     rw [hcz] at HC
     have h95 : cz = true → (s[k].toNat : Int) = 95:=fun h => by rw [h] at hcz;simpa using hcz
     clear hcz
     cases kz <;> cases cz <;> by_cases a1 : (97 : Int) ≤ s[k].toNat <;> by_cases a2 : (s[k].toNat : Int) ≤ 122 <;> by_cases b1 : (s[k].toNat : Int) < 48 <;> by_cases b2 : (57 : Int) < s[k].toNat <;> (try (exfalso;have:=h95 rfl;omega)) <;> (try (exfalso;omega))
     all_goals (
      simp only [a1,a2,b1,b2,decide_true,decide_false,Bool.not_true,Bool.not_false,Bool.and_true,Bool.and_false,Bool.or_true,Bool.or_false,Bool.true_and,Bool.false_and,Bool.true_or,Bool.false_or,Bool.and_self,Bool.or_self] at HC
      simp only [Bool.not_true,Bool.not_false] at e3
      clear h95)
     all_goals go_wp2
     all_goals first
      | exact ⟨⟨k + 1,by omega,by go_num,Ld (by rw [hn.out,HND.out,HGE.out,HC.out];rfl),trivial⟩,by simp [intOf];omega⟩
      | (go_ret
         exact ⟨ret_eq (by rw [HN.out,hn.out,HND.out,HGE.out,HC.out];rfl),rfl⟩)
    ·go_wp2
     go_ret
     have hk' : s.data.toList.drop k = []:=List.drop_eq_nil_of_le (by have:=HL.out;omega)
     exact ⟨ret_eq (by rw [HN.out,hn.out,hk'];rfl),rfl⟩
theorem refText_c (s : ByteArray) (w : World) : Calls Tryz.prog 88 #[.string s] w fun e w' => e = .returned (VI.mk 5 false 0 0 s none 0 []).val ∧ Below w.heap.size w w':=by
 go_enter Tryz.func88,Tryz.ntmps88
 go_wp2
 exact bodyPost_ret (results_c1 rfl _ _ w.heap.size 54 _ (0,0) _ rfl (heap_alloc_new w _) Tryz.underlying54 rfl (by kernel_rfl)) rfl ⟨rfl,(Below.refl _ _).alloc (Nat.le_refl _) _⟩
theorem refInt_c (n : Int) (w : World) : Calls Tryz.prog 97 #[.int .i64 n] w fun e w' => e = .returned (VI.mk 3 false n 0 ⟨#[]⟩ none 0 []).val ∧ Below w.heap.size w w':=by
 go_enter Tryz.func97,Tryz.ntmps97
 go_wp2
 exact bodyPost_ret (results_c1 rfl _ _ w.heap.size 54 _ (0,0) _ rfl (heap_alloc_new w _) Tryz.underlying54 rfl (by kernel_rfl)) rfl ⟨rfl,(Below.refl _ _).alloc (Nat.le_refl _) _⟩
theorem refBool_c (b : Bool) (w : World) : Calls Tryz.prog 98 #[.bool b] w fun e w' => e = .returned (VI.mk 2 b 0 0 ⟨#[]⟩ none 0 []).val ∧ Below w.heap.size w w':=by
 go_enter Tryz.func98,Tryz.ntmps98
 go_wp2
 exact bodyPost_ret (results_c1 rfl _ _ w.heap.size 54 _ (0,0) _ rfl (heap_alloc_new w _) Tryz.underlying54 rfl (by kernel_rfl)) rfl ⟨rfl,(Below.refl _ _).alloc (Nat.le_refl _) _⟩
end
section
open Go.RowKit
set_option maxHeartbeats 2000000
set_option maxRecDepth 100000
theorem shaped_parts (t : TabD) : shapedB t = (nameB t.name.data.toList && decide (1 ≤ t.cols.length) && decide (t.cols.length ≤ 16) && decide (1 ≤ t.keys) && decide (t.keys ≤ t.cols.length) && (List.range t.cols.length).all (shapedAt t)):=rfl
theorem shapedAt_at {t : TabD} {i : Nat} (h : i < t.cols.length) {c : ColD} (hc : t.cols[i] = c) : shapedAt t i = (nameB c.name.data.toList && !((t.cols.take i).any fun d => d.name.data.toList == c.name.data.toList) && decide (2 ≤ c.kind) && decide (c.kind ≤ 6) && !(decide ((i : Int) < t.keys) && c.null)):=by
 unfold shapedAt
 rw [List.getElem?_eq_getElem h,hc]
theorem any_take {l : List ColD} {k : Nat} {p : ColD → Bool} (h : ∀ j (hj : j < l.length),j < k → p l[j] = false) : (l.take k).any p = false:=by
 rw [List.any_eq_false]
 intro x hx
 obtain ⟨j,hj,rfl⟩:=List.mem_iff_getElem.1 hx
 rw [List.length_take] at hj
 rw [List.getElem_take,h j (by omega) (by omega)]
 decide
theorem any_take_true {l : List ColD} {k j : Nat} {p : ColD → Bool} (hj : j < l.length) (hk : j < k) (h : p l[j] = true) : (l.take k).any p = true:=by
 rw [List.any_eq_true]
 exact ⟨l[j],List.mem_iff_getElem.2 ⟨j,by rw [List.length_take];omega,by rw [List.getElem_take]⟩,h⟩
theorem box_t {w W : World} {c d e : Value} (h : Below (w.heap.size + 1) (w.alloc (.cells #[c,d,e] 27)) W) : (W.cell? ⟨w.heap.size,0,none⟩ = some c ∧ W.cell? ⟨w.heap.size,1,none⟩ = some d ∧ W.cell? ⟨w.heap.size,2,none⟩ = some e) ∧ w.heap.size < W.heap.size ∧ Below w.heap.size w W:=by
 have h1 : W.heap[w.heap.size]? = some (.cells #[c,d,e] 27 (0,0)):=(h.block _ (by omega)).trans (heap_alloc_new w _)
 exact ⟨box3 h1,(Array.getElem?_eq_some_iff.1 h1).1,((Below.refl _ _).alloc (Nat.le_refl _) _).trans (h.mono (by omega))⟩
theorem may25_c (A : Option Addr) (c : Nat) (t : TabD) (w : World) (hR : RdT w A c t) : Calls Tryz.prog 62 #[vT t A c] w fun e w' => e = .returned (.bool (shapedB t)) ∧ Below w.heap.size w w':=by
 have HR:=Ld hR
 have hlb:=hR.hb
 rcases t with ⟨tn,cols,keys⟩
 obtain ⟨nb,hnb⟩ : ∃ b,nameB tn.data.toList = b:=⟨_,rfl⟩
 have HNB:=Ld hnb
 have HSP:=Ld (shaped_parts ⟨tn,cols,keys⟩)
 obtain ⟨sb,hsb⟩ : ∃ b,shapedB ⟨tn,cols,keys⟩ = b:=⟨_,rfl⟩
 have HSB:=Ld hsb
 simp only at HSP
 rw [hsb,hnb] at HSP
 rw [HSB.out]
 have HAT:=Ld (fun i (hi : i < cols.length) x (hx : cols[i] = x) => shapedAt_at (t:=⟨tn,cols,keys⟩) hi hx)
 have HALL:=Ld (fun (h : ∀ i,i < cols.length → shapedAt ⟨tn,cols,keys⟩ i = true) => show (List.range cols.length).all (shapedAt ⟨tn,cols,keys⟩) = true from List.all_eq_true.2 fun i hi => h i (List.mem_range.1 hi))
 have HNOT:=Ld (fun i (hi : i < cols.length) (h : shapedAt ⟨tn,cols,keys⟩ i = false) => show (List.range cols.length).all (shapedAt ⟨tn,cols,keys⟩) = false from List.all_eq_false.2 ⟨i,List.mem_range.2 hi,by rw [h];decide⟩)
 clear hR hnb hsb
 cases nb with
 | false =>
   have HSF:=Ld (show sb = false by rw [HSP.out];simp)
   go_enter Tryz.func62,Tryz.ntmps62
   go_wp2_with (go_at_call 96;go_must (refine (refName_c tn _ HR.out.hn).mono ?_;rw [HNB.out];rintro e w1 ⟨rfl,rfl⟩))
   go_ret
   exact ⟨ret_eq (by rw [HSF.out];rfl),(Below.refl _ _).alloc (Nat.le_refl _) _⟩
 | true =>
   by_cases c1 : cols.length < 1
   ·have HSF:=Ld (show sb = false by rw [HSP.out,decide_eq_false (show ¬ 1 ≤ cols.length by omega)];simp)
    go_enter Tryz.func62,Tryz.ntmps62
    go_wp2_with (go_at_call 96;go_must (refine (refName_c tn _ HR.out.hn).mono ?_;rw [HNB.out];rintro e w1 ⟨rfl,rfl⟩))
    go_ret
    exact ⟨ret_eq (by rw [HSF.out];rfl),(Below.refl _ _).alloc (Nat.le_refl _) _⟩
   ·by_cases c2 : 16 < cols.length
    ·have HSF:=Ld (show sb = false by rw [HSP.out,decide_eq_false (show ¬ cols.length ≤ 16 by omega)];simp)
     go_enter Tryz.func62,Tryz.ntmps62
     go_wp2_with (go_at_call 96;go_must (refine (refName_c tn _ HR.out.hn).mono ?_;rw [HNB.out];rintro e w1 ⟨rfl,rfl⟩))
     go_ret
     exact ⟨ret_eq (by rw [HSF.out];rfl),(Below.refl _ _).alloc (Nat.le_refl _) _⟩
    ·by_cases c3 : keys < 1
     ·have HSF:=Ld (show sb = false by rw [HSP.out,decide_eq_false (show ¬ 1 ≤ keys by omega)];simp)
      go_enter Tryz.func62,Tryz.ntmps62
      go_wp2_with (go_at_call 96;go_must (refine (refName_c tn _ HR.out.hn).mono ?_;rw [HNB.out];rintro e w1 ⟨rfl,rfl⟩))
      go_ret
      exact ⟨ret_eq (by rw [HSF.out];rfl),(Below.refl _ _).alloc (Nat.le_refl _) _⟩
     ·by_cases c4 : (cols.length : Int) < keys
      ·have HSF:=Ld (show sb = false by rw [HSP.out,decide_eq_false (show ¬ keys ≤ cols.length by omega)];simp)
       go_enter Tryz.func62,Tryz.ntmps62
       go_wp2_with (go_at_call 96;go_must (refine (refName_c tn _ HR.out.hn).mono ?_;rw [HNB.out];rintro e w1 ⟨rfl,rfl⟩))
       go_ret
       exact ⟨ret_eq (by rw [HSF.out];rfl),(Below.refl _ _).alloc (Nat.le_refl _) _⟩
      ·have HSA:=Ld (show sb = (List.range cols.length).all (shapedAt ⟨tn,cols,keys⟩) by rw [HSP.out,decide_eq_true (show 1 ≤ cols.length by omega),decide_eq_true (show cols.length ≤ 16 by omega),decide_eq_true (show 1 ≤ keys by omega),decide_eq_true (show keys ≤ cols.length by omega)];simp)
       obtain ⟨W0,hW0⟩ : ∃ W0,w.alloc (.cells #[.string tn,.slice A cols.length c,.int .i64 keys] 27) = W0:=⟨_,rfl⟩
       have HW0:=Ld hW0
       have HBX:=Ld (fun W (h : Below (w.heap.size + 1) W0 W) => box_t (hW0 ▸ h))
       clear hW0
       go_enter Tryz.func62,Tryz.ntmps62
       go_wp2_with (go_at_call 96;go_must (refine (refName_c tn _ HR.out.hn).mono ?_;rw [HNB.out];rintro e w1 ⟨rfl,rfl⟩))
       go_loopw [3] (fun i wr => ∃ (k : Nat),k ≤ cols.length ∧ i = .int .i64 k ∧ Hid (∀ j,j < k → shapedAt ⟨tn,cols,keys⟩ j = true) ∧ Hid (Below (w.heap.size + 1) W0 wr)) (fun i _ => cols.length - (intOf i).toNat)
       case atStart => exact ⟨0,Nat.zero_le _,rfl,Ld (fun j h => absurd h (by omega)),Ld (by rw [HW0.out];exact Below.refl _ _)⟩
       case round =>
        obtain ⟨k,hk,rfl,hs,hB⟩:=hrel
        obtain ⟨⟨t0,t1,t2⟩,z0,z1⟩:=HBX.out _ hB.out
        have HW:=Ld z1
        clear z1
        by_cases hlt : k < cols.length
        ·have HTr:=Ld (HR.out.below HW.out)
         obtain ⟨tb,te,rfl⟩ : ∃ tb te,A = some ⟨tb,te,none⟩:=by obtain ⟨b,o,e,_⟩:=HTr.out.rd.2 (show 0 < cols.length by omega);exact ⟨b,o,e⟩
         obtain ⟨p0,p1,p2⟩:=col_at HTr.out.rd hlt
         have HXS:=Ld (HTr.out.hx _ (List.getElem_mem hlt))
         have HAK:=Ld (fun x (hx : cols[k] = x) => HAT.out k hlt x hx)
         simp only at p0 p1 p2 HXS
         obtain ⟨x,hx⟩ : ∃ x,cols[k] = x:=⟨_,rfl⟩
         have HAX:=Ld (HAK.out x hx)
         rw [hx] at p0 p1 p2 HXS
         have HXE:=Ld hx
         clear hx HAK
         rcases x with ⟨xn,xk,xz⟩
         simp only at p0 p1 p2 HAX HXS
         obtain ⟨nx,hnx⟩ : ∃ b,nameB xn.data.toList = b:=⟨_,rfl⟩
         have HNX:=Ld hnx
         rw [hnx] at HAX
         obtain ⟨ay,hay⟩ : ∃ b,((cols.take k).any fun d => d.name.data.toList == xn.data.toList) = b:=⟨_,rfl⟩
         have HAY:=Ld hay
         rw [hay] at HAX
         have HWA:=Ld (HW.out.alloc HW.out.size (.cells #[.string xn,.int .u8 xk,.bool xz] 58))
         have HBA:=Ld (hB.out.alloc (show w.heap.size + 1 ≤ wr.heap.size from z0) (.cells #[.string xn,.int .u8 xk,.bool xz] 58))
         clear hnx hay
         by_cases hall : nx = true ∧ 2 ≤ xk ∧ xk ≤ 6 ∧ ¬ ((k : Int) < keys ∧ xz = true)
         ·obtain ⟨rfl,g2,g6,gz⟩:=hall
          have HAZ:=Ld (show shapedAt ⟨tn,cols,keys⟩ k = !ay by
           rw [HAX.out,decide_eq_true g2,decide_eq_true g6]
           have : (decide ((k : Int) < keys) && xz) = false:=by
            by_cases h : (k : Int) < keys
            ·have : xz ≠ true:=fun h2 => gz ⟨h,h2⟩
             simp [this]
            ·simp [h]
           rw [this];simp)
          have hz : ¬ (k : Int) < keys ∨ xz = false:=by
           by_cases h : (k : Int) < keys
           ·right;cases hxz : xz with
            | true => exact absurd ⟨h,hxz⟩ gz
            | false => rfl
           ·exact .inl h
          clear gz
          by_cases hz1 : (k : Int) < keys
          ·have hz2 : xz = false:=by rcases hz with h | h;exact absurd hz1 h;exact h
           subst hz2
           clear hz
           go_wp2_with (go_at_call 96;go_must (refine (refName_c xn _ HXS.out.1).mono ?_;rw [HNX.out];rintro e w1 ⟨rfl,rfl⟩))
           obtain ⟨g,hg⟩ : ∃ g,wr.heap.size = g:=⟨_,rfl⟩
           obtain ⟨W1,hW1⟩ : ∃ V,wr.alloc (.cells #[.string xn,.int .u8 xk,.bool false] 58) = V:=⟨_,rfl⟩
           have HGE:=Ld hg
           have HW1:=Ld hW1
           have HR1:=Ld (show W1.heap[g]? = some (.cells #[.string xn,.int .u8 xk,.bool false] 58 (0,0)) by rw [← hW1,← hg];exact heap_alloc_new wr _)
           have HB1:=Ld (show Below (w.heap.size + 1) W0 W1 by rw [← hW1];exact HBA.out)
           have HWW:=Ld (show Below w.heap.size w W1 by rw [← hW1];exact HWA.out)
           rw [HW1.out,HGE.out]
           clear hg hW1 t0 t1 t2 z0 p0 p1 p2
           have HS1:=Ld (HBX.out _ HB1.out).2.1
           go_loopw [5] (fun i wr => ∃ (m : Nat),m ≤ k ∧ i = .int .i64 m ∧ Hid (∀ j (hj : j < cols.length),j < m → (cols[j].name.data.toList == xn.data.toList) = false) ∧ Hid (Below W1.heap.size W1 wr)) (fun i _ => k - (intOf i).toNat)
           case atStart => exact ⟨0,Nat.zero_le _,rfl,Ld (fun j _ h => absurd h (by omega)),Ld (Below.refl _ _)⟩
           case round =>
            obtain ⟨m,hm,rfl,hne,hB2⟩:=hrel
            have HB3:=Ld (HB1.out.trans (hB2.out.mono (show w.heap.size + 1 ≤ W1.heap.size from HS1.out)))
            by_cases hlt2 : m < k
            ·have hmc : m < cols.length:=by omega
             have HCE:=Ld (fun V (h : Below _ _ V) => col_at ((HR.out.below ((HBX.out _ HB3.out).2.2.trans (h.mono (HBX.out _ HB3.out).2.2.size))).rd) hmc)
             have HTE:=Ld (fun V (h : Below _ _ V) => (HBX.out V (HB3.out.trans (h.mono (show w.heap.size + 1 ≤ _ from Nat.le_trans (show w.heap.size + 1 ≤ W1.heap.size from HS1.out) hB2.out.size)))).1)
             have HXE2:=Ld (fun V (h : Below _ _ V) => box3 (row_keep' HR1.out (hB2.out.trans (h.mono hB2.out.size))))
             have HNE:=Ld (fun y (hy : cols[m] = y) (he : (y.name.data.toList == xn.data.toList) = true) => any_take_true (l:=cols) (k:=k) (p:=fun d => d.name.data.toList == xn.data.toList) hmc hlt2 (by rw [hy];exact he))
             have HNN:=Ld (fun y (hy : cols[m] = y) (he : (y.name.data.toList == xn.data.toList) = false) j (hj : j < cols.length) (hjm : j < m + 1) => show (cols[j].name.data.toList == xn.data.toList) = false by
              by_cases h : j = m
              ·subst h;rw [hy];exact he
              ·exact hne.out j hj (by omega))
             simp only at HCE
             obtain ⟨y,hy⟩ : ∃ y,cols[m] = y:=⟨_,rfl⟩
             have HNE2:=Ld (HNE.out y hy)
             have HNN2:=Ld (HNN.out y hy)
             simp only [hy] at HCE
             clear hy HNE HNN
             rcases y with ⟨yn,yk,yz⟩
             simp only at HCE HNE2 HNN2
             obtain ⟨qb,hqb⟩ : ∃ b,(yn.toList == xn.toList) = b:=⟨_,rfl⟩
             have HQB:=Ld (show (yn.data.toList == xn.data.toList) = qb by rw [← hqb,ByteArray.toList_eq,ByteArray.toList_eq])
             go_wp2
             refine wp_region_sched (S:=fun V => Below wr.heap.size wr V) [(0,true),(1,true),(2,true),(3,true),(4,true),(5,true),(6,true),(7,true),(8,true)] (by kernel_rfl) (by kernel_rfl) (by kernel_rfl) (fun _ _ d _ _ h => by cases d <;> exact h) (Below.refl _ _).drew ?_
             repeat (apply sched_take;(exact rfl);rfl;(intro W hW;obtain ⟨c0,c1,c2⟩:=HCE.out W hW;obtain ⟨d0,d1,d2⟩:=HTE.out W hW;obtain ⟨e0,e1,e2⟩:=HXE2.out W hW;go_simp;(try with_reducible rfl));simp only [Act.put,List.setIfInBounds_toArray,List.set_cons_zero,List.set_cons_succ])
             refine sched_done ?_
             have hbd:=Ld ((Below.refl wr.heap.size wr).drew)
             cases qb with
             | true =>
               have HF:=Ld (show shapedAt ⟨tn,cols,keys⟩ k = false by rw [HAZ.out,← HAY.out,HNE2.out HQB.out];rfl)
               go_wp2
               go_ret
               exact ⟨ret_eq (by rw [HSA.out,HNOT.out k hlt HF.out];rfl),HWW.out.trans ((hB2.out.trans (hbd.out.mono hB2.out.size)).mono HWW.out.size)⟩
             | false =>
               go_wp2
               exact ⟨⟨m + 1,by omega,by go_num,Ld (HNN2.out HQB.out),Ld (hB2.out.trans (hbd.out.mono hB2.out.size))⟩,by simp [intOf];omega⟩
            ·have HF:=Ld (show shapedAt ⟨tn,cols,keys⟩ k = true by
               rw [HAZ.out,← HAY.out,any_take (fun j hj hjk => hne.out j hj (by omega))];rfl)
             go_wp2
             exact ⟨⟨k + 1,by omega,by go_num,Ld (fun j hj => by
              by_cases h : j = k
              ·subst h;exact HF.out
              ·exact hs.out j (by omega)),HB3⟩,by simp [intOf];omega⟩
          ·clear hz
           go_wp2_with (go_at_call 96;go_must (refine (refName_c xn _ HXS.out.1).mono ?_;rw [HNX.out];rintro e w1 ⟨rfl,rfl⟩))
           obtain ⟨g,hg⟩ : ∃ g,wr.heap.size = g:=⟨_,rfl⟩
           obtain ⟨W1,hW1⟩ : ∃ V,wr.alloc (.cells #[.string xn,.int .u8 xk,.bool xz] 58) = V:=⟨_,rfl⟩
           have HGE:=Ld hg
           have HW1:=Ld hW1
           have HR1:=Ld (show W1.heap[g]? = some (.cells #[.string xn,.int .u8 xk,.bool xz] 58 (0,0)) by rw [← hW1,← hg];exact heap_alloc_new wr _)
           have HB1:=Ld (show Below (w.heap.size + 1) W0 W1 by rw [← hW1];exact HBA.out)
           have HWW:=Ld (show Below w.heap.size w W1 by rw [← hW1];exact HWA.out)
           rw [HW1.out,HGE.out]
           clear hg hW1 t0 t1 t2 z0 p0 p1 p2
           have HS1:=Ld (HBX.out _ HB1.out).2.1
           go_loopw [5] (fun i wr => ∃ (m : Nat),m ≤ k ∧ i = .int .i64 m ∧ Hid (∀ j (hj : j < cols.length),j < m → (cols[j].name.data.toList == xn.data.toList) = false) ∧ Hid (Below W1.heap.size W1 wr)) (fun i _ => k - (intOf i).toNat)
           case atStart => exact ⟨0,Nat.zero_le _,rfl,Ld (fun j _ h => absurd h (by omega)),Ld (Below.refl _ _)⟩
           case round =>
            obtain ⟨m,hm,rfl,hne,hB2⟩:=hrel
            have HB3:=Ld (HB1.out.trans (hB2.out.mono (show w.heap.size + 1 ≤ W1.heap.size from HS1.out)))
            by_cases hlt2 : m < k
            ·have hmc : m < cols.length:=by omega
             have HCE:=Ld (fun V (h : Below _ _ V) => col_at ((HR.out.below ((HBX.out _ HB3.out).2.2.trans (h.mono (HBX.out _ HB3.out).2.2.size))).rd) hmc)
             have HTE:=Ld (fun V (h : Below _ _ V) => (HBX.out V (HB3.out.trans (h.mono (show w.heap.size + 1 ≤ _ from Nat.le_trans (show w.heap.size + 1 ≤ W1.heap.size from HS1.out) hB2.out.size)))).1)
             have HXE2:=Ld (fun V (h : Below _ _ V) => box3 (row_keep' HR1.out (hB2.out.trans (h.mono hB2.out.size))))
             have HNE:=Ld (fun y (hy : cols[m] = y) (he : (y.name.data.toList == xn.data.toList) = true) => any_take_true (l:=cols) (k:=k) (p:=fun d => d.name.data.toList == xn.data.toList) hmc hlt2 (by rw [hy];exact he))
             have HNN:=Ld (fun y (hy : cols[m] = y) (he : (y.name.data.toList == xn.data.toList) = false) j (hj : j < cols.length) (hjm : j < m + 1) => show (cols[j].name.data.toList == xn.data.toList) = false by
              by_cases h : j = m
              ·subst h;rw [hy];exact he
              ·exact hne.out j hj (by omega))
             simp only at HCE
             obtain ⟨y,hy⟩ : ∃ y,cols[m] = y:=⟨_,rfl⟩
             have HNE2:=Ld (HNE.out y hy)
             have HNN2:=Ld (HNN.out y hy)
             simp only [hy] at HCE
             clear hy HNE HNN
             rcases y with ⟨yn,yk,yz⟩
             simp only at HCE HNE2 HNN2
             obtain ⟨qb,hqb⟩ : ∃ b,(yn.toList == xn.toList) = b:=⟨_,rfl⟩
             have HQB:=Ld (show (yn.data.toList == xn.data.toList) = qb by rw [← hqb,ByteArray.toList_eq,ByteArray.toList_eq])
             go_wp2
             refine wp_region_sched (S:=fun V => Below wr.heap.size wr V) [(0,true),(1,true),(2,true),(3,true),(4,true),(5,true),(6,true),(7,true),(8,true)] (by kernel_rfl) (by kernel_rfl) (by kernel_rfl) (fun _ _ d _ _ h => by cases d <;> exact h) (Below.refl _ _).drew ?_
             repeat (apply sched_take;(exact rfl);rfl;(intro W hW;obtain ⟨c0,c1,c2⟩:=HCE.out W hW;obtain ⟨d0,d1,d2⟩:=HTE.out W hW;obtain ⟨e0,e1,e2⟩:=HXE2.out W hW;go_simp;(try with_reducible rfl));simp only [Act.put,List.setIfInBounds_toArray,List.set_cons_zero,List.set_cons_succ])
             refine sched_done ?_
             have hbd:=Ld ((Below.refl wr.heap.size wr).drew)
             cases qb with
             | true =>
               have HF:=Ld (show shapedAt ⟨tn,cols,keys⟩ k = false by rw [HAZ.out,← HAY.out,HNE2.out HQB.out];rfl)
               go_wp2
               go_ret
               exact ⟨ret_eq (by rw [HSA.out,HNOT.out k hlt HF.out];rfl),HWW.out.trans ((hB2.out.trans (hbd.out.mono hB2.out.size)).mono HWW.out.size)⟩
             | false =>
               go_wp2
               exact ⟨⟨m + 1,by omega,by go_num,Ld (HNN2.out HQB.out),Ld (hB2.out.trans (hbd.out.mono hB2.out.size))⟩,by simp [intOf];omega⟩
            ·have HF:=Ld (show shapedAt ⟨tn,cols,keys⟩ k = true by
               rw [HAZ.out,← HAY.out,any_take (fun j hj hjk => hne.out j hj (by omega))];rfl)
             go_wp2
             exact ⟨⟨k + 1,by omega,by go_num,Ld (fun j hj => by
              by_cases h : j = k
              ·subst h;exact HF.out
              ·exact hs.out j (by omega)),HB3⟩,by simp [intOf];omega⟩
         ·have HF:=Ld (show shapedAt ⟨tn,cols,keys⟩ k = false by
            rw [HAX.out]
            by_cases h1 : nx = true
            ·by_cases h2 : 2 ≤ xk
             ·by_cases h6 : xk ≤ 6
              ·have h3 : (k : Int) < keys ∧ xz = true:=Classical.byContradiction fun h3 => hall ⟨h1,h2,h6,h3⟩
               rw [decide_eq_true h3.1,h3.2];simp
              ·rw [decide_eq_false h6];simp
             ·rw [decide_eq_false h2];simp
            ·have : nx = false:=by simpa using h1
             rw [this];simp)
          cases nx with
          | false =>
            clear hall
            go_wp2_with (go_at_call 96;go_must (refine (refName_c xn _ HXS.out.1).mono ?_;rw [HNX.out];rintro e w1 ⟨rfl,rfl⟩))
            go_ret
            exact ⟨ret_eq (by rw [HSA.out,HNOT.out k hlt HF.out];rfl),HWA.out⟩
          | true =>
            by_cases h2 : xk < 2
            ·clear hall
             go_wp2_with (go_at_call 96;go_must (refine (refName_c xn _ HXS.out.1).mono ?_;rw [HNX.out];rintro e w1 ⟨rfl,rfl⟩))
             go_ret
             exact ⟨ret_eq (by rw [HSA.out,HNOT.out k hlt HF.out];rfl),HWA.out⟩
            ·by_cases h6 : 6 < xk
             ·clear hall
              go_wp2_with (go_at_call 96;go_must (refine (refName_c xn _ HXS.out.1).mono ?_;rw [HNX.out];rintro e w1 ⟨rfl,rfl⟩))
              go_ret
              exact ⟨ret_eq (by rw [HSA.out,HNOT.out k hlt HF.out];rfl),HWA.out⟩
             ·have h3 : (k : Int) < keys ∧ xz = true:=Classical.byContradiction fun h3 => hall ⟨rfl,by omega,by omega,h3⟩
              obtain ⟨h3,rfl⟩:=h3
              clear hall
              go_wp2_with (go_at_call 96;go_must (refine (refName_c xn _ HXS.out.1).mono ?_;rw [HNX.out];rintro e w1 ⟨rfl,rfl⟩))
              go_ret
              exact ⟨ret_eq (by rw [HSA.out,HNOT.out k hlt HF.out];rfl),HWA.out⟩
        ·go_wp2
         go_ret
         exact ⟨ret_eq (by rw [HSA.out,HALL.out (fun i hi => hs.out i (by omega))];rfl),HW.out⟩
end
end Go.Proofs.YtonjgedhmmnolaaGreatDoor
