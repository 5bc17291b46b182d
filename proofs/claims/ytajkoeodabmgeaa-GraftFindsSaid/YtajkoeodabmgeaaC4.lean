import Derived.Test.YtajkoeodabmgeaaC3
import Derived.Deep.RegionWith
import Derived.Lib.ConvBytes
namespace Go.Proofs.Ytajkoeodabmgeaa
open Go.RowKit
set_option maxHeartbeats 400000
set_option maxRecDepth 100000
attribute [local go_sem] grow_cell grow_frozen grow_size

/-- One byte out of memory, as a text. -/
theorem conv1 (W : World) (b o : Nat) : (convert 118 9 (.slice (some ⟨b, o, none⟩) 1 1)).run Try.prog W = ((load ⟨b, o, none⟩).run Try.prog W).andThen fun c w' => match c with
    | .int .u8 n => .ok (.string ⟨#[UInt8.ofNat n.toNat]⟩) w'
    | _ => .halt (.stuck "bytesToString: byte expected") w' := by
  unfold convert
  simp only [Sem.run_bind, run_underlying Try.underlying118, run_underlying Try.underlying9, run_underlying Try.underlying5, Result.andThen_ok, Conv.bytesToString, loadCells, loadCellsFrom]
  generalize hr : (load ⟨b, o, none⟩).run Try.prog W = r
  have h0 : (⟨b, o, none⟩ : Addr).add 0 = ⟨b, o, none⟩ := rfl
  rw [h0, hr]
  cases r with
  | halt h w' => simp [Result.andThen]
  | ok c w' =>
    cases c <;> simp [Sem.run_pure]
    rename_i k n
    cases k <;> simp [stuck, ByteArray.empty, ByteArray.push, ByteArray.emptyWithCapacity]
    rfl

attribute [local go_sem] conv1

theorem undrew {w w1 : World} (h : Below w.drew.heap.size w.drew w1) : Below w.heap.size w w1 := ⟨h.os, h.tape, h.output, h.size, h.block⟩

/-- The bytes of a free number. -/
def freeL (n : Nat) : List UInt8 := if n < 128 then [UInt8.ofNat n] else UInt8.ofNat (n % 128 + 128) :: freeL (n / 128)
termination_by n
decreasing_by omega
def freeS (n : Nat) : ByteArray := ⟨(freeL n).toArray⟩
theorem freeL_length (n : Nat) : (freeL n).length = cnt n := by
  induction n using Nat.strongRecOn with
  | ind n ih =>
    rw [freeL, cnt]
    split
    · rfl
    · rw [List.length_cons, ih (n / 128) (by omega)]
theorem freeS_size (n : Nat) : (freeS n).size = cnt n := by
  rw [← freeL_length n]; simp [freeS, ByteArray.size]
theorem cons_bytes (b : UInt8) (l : List UInt8) : ((⟨#[b]⟩ : ByteArray) ++ ⟨l.toArray⟩) = ⟨(b :: l).toArray⟩ := by
  apply ByteArray.ext
  rw [ByteArray.data_append]
  simp

theorem free_small (n : Nat) (w : World) (h : n < 128) :
    Calls Try.prog 92 #[.int .u64 n] w fun e w' => e = .returned (.string (freeS n)) ∧ Below w.heap.size w w' := by
  go_enter Try.func92, Try.ntmps92
  go_wp2
  go_ret
  exact ⟨ret_eq (show Value.string ⟨#[UInt8.ofNat (n : Int).toNat]⟩ = _ by rw [freeS, freeL, if_pos h]; rfl), (Below.refl _ _).alloc (Nat.le_refl _) _⟩

theorem free_c (k : Nat) : ∀ (m : Int) (w : World), 0 ≤ m → m ≤ 140737488355328 → m.toNat = k →
    Calls Try.prog 92 #[.int .u64 m] w fun e w' => e = .returned (.string (freeS k)) ∧ Below w.heap.size w w' := by
  induction k using Nat.strongRecOn with
  | ind k ih =>
    intro m w h0 hn hk
    by_cases h : m < 128
    · obtain ⟨n, rfl⟩ := Int.eq_ofNat_of_zero_le h0
      obtain rfl : n = k := by omega
      exact free_small n w (by omega)
    · have h1 := ih (m / 128).toNat (by omega)
      have hc : freeS k = (⟨#[UInt8.ofNat (m % 128 + 128).toNat]⟩ : ByteArray) ++ freeS (m / 128).toNat := by
        rw [freeS, freeS, cons_bytes, freeL, if_neg (by omega)]
        congr 3
        · congr 1; omega
        · congr 1; omega
      have hsz : (freeS (m / 128).toNat).size ≤ 1099511627777 := by
        rw [freeS_size]; have := cnt_le (m / 128).toNat; omega
      have H1 := Lib.hid h1
      have HC := Lib.hid hc
      have e1 : IntKind.u64.wrap (m.tdiv 128) = m / 128 := by rw [Int.tdiv_eq_ediv_of_nonneg h0]; exact IntWalk.u64_in _ (by omega)
      have E1 := Lib.hid e1
      clear e1 h1 ih hk hc
      go_enter Try.func92, Try.ntmps92
      go_wp2_with fail
      go_region_with (go_at_call 92; rw [E1.out]; refine (H1.out _ _ (by omega) (by omega) rfl).mono ?_; rintro e w1 ⟨rfl, hb⟩; obtain ⟨hcx, hfx⟩ := bcell (undrew hb); have y1 : w.heap.size < w1.heap.size + 1 := (by have := (undrew hb).size; (try simp only [World.size_alloc] at this); omega))
      all_goals
        go_wp2
        go_ret
        exact ⟨ret_eq (by rw [HC.out]; rfl), by
          have hu := undrew hb
          first
            | exact below_a hu
            | exact Below.alloc hu hu.size _⟩

theorem freeR_c (n : Nat) (w : World) (hn : n ≤ 140737488355328) :
    Calls Try.prog 92 #[.int .u64 (n : Int)] w fun e w' => e = .returned (.string (freeS n)) ∧ Below w.heap.size w w' :=
  free_c n n w (by omega) (by omega) rfl

end Go.Proofs.Ytajkoeodabmgeaa
