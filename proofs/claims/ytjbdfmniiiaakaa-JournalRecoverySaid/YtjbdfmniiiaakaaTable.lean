/- The program's table returns the 256 remainders. No condition. -/
import Derived.Test.YtjbdfmniiiaakaaProg
import Derived.Test.YtjbdfmniiiaakaaCrc
import Derived.Test.YtjbdfmniiiaakaaBit
import Derived.Test.YtjbdfmniiiaakaaMem
namespace Go.Proofs.Ytjbdfmniiiaakaa
set_option linter.unusedVariables false
open Go.RowKit

/-- the table's cells behind k rounds. -/
def tabF (k i : Nat) : Value := if i < k then .int .u32 (Crc.tab i : Nat) else .int .u32 0
def tabL (k : Nat) : List Value := (List.range 256).map (tabF k)
def tabA (k : Nat) : Array Value := (tabL k).toArray
theorem tabA_size (k : Nat) : (tabA k).size = 256 := by simp [tabA, tabL]
theorem tabA_get (k i : Nat) (h : i < 256) : (tabA k)[i]? = some (tabF k i) := by simp [tabA, tabL, h]
theorem tabA_step (k : Nat) (h : k < 256) : (tabA k).setIfInBounds k (.int .u32 (Crc.tab k : Nat)) = tabA (k + 1) := by
  apply Array.ext_getElem?
  intro i
  by_cases hi : i < 256
  · rw [tabA_get _ _ hi, Array.getElem?_setIfInBounds]
    by_cases e : k = i
    · subst e
      rw [if_pos rfl, if_pos (by rw [tabA_size]; exact h)]
      simp [tabF]
    · rw [if_neg e, tabA_get _ _ hi]
      unfold tabF
      by_cases h1 : i < k
      · rw [if_pos h1, if_pos (by omega)]
      · rw [if_neg h1, if_neg (by omega)]
  · rw [Array.getElem?_eq_none (by simp [tabA_size]; omega), Array.getElem?_eq_none (by rw [tabA_size]; omega)]
theorem tabA_zero : Try.zeroCells117 = tabA 0 := by kernel_rfl
theorem tabA_one (k : Nat) : (tabA k).all (·.oneCell') = true := by
  rw [Array.all_eq_true_iff_forall_mem]
  intro v hv
  simp only [tabA, tabL, List.mem_toArray, List.mem_map] at hv
  obtain ⟨i, _, rfl⟩ := hv
  unfold tabF
  split <;> rfl
theorem tabF_some (k i : Nat) : ∃ n : Int, tabF k i = .int .u32 n := by unfold tabF; split <;> exact ⟨_, rfl⟩

theorem info_tab : (Try.prog.info? 117).map (·.size) = some 256 := by kernel_rfl

set_option maxRecDepth 100000 in
set_option maxHeartbeats 800000 in
theorem table_any (w : World) :
    Calls Try.prog 80 #[] w fun e w' => e = .returned (.agg (tabA 256)) ∧ Below w.heap.size w w' := by
  go_enter Try.func80, Try.ntmps80
  go_wp2
  go_loopw [5] (fun i wr => ∃ k : Nat, k ≤ 256 ∧ i = .int .i64 k ∧ Below w.heap.size w wr ∧ Blk wr w.heap.size 117 (tabA 0) ∧ Blk wr (w.heap.size + 1) 117 (tabA k)) (fun i _ => 256 - (intOf i).toNat)
  case atStart => 
    refine ⟨0, by omega, rfl, by go_grown, ?_, ?_⟩
    · rw [tabA_zero]; exact (Blk.new _ _ _).alloc _
    · rw [tabA_zero]
      have := Blk.new (w.alloc (.cells (tabA 0) 117)) 117 (tabA 0)
      simpa using this
  case round =>
    obtain ⟨k, hk, rfl, hb, hr, ht⟩ := hrel
    by_cases hlt : k < 256
    · go_wp2_with fail
      go_loop [3, 10] (fun v i => ∃ j X : Nat, j ≤ 8 ∧ X < 4294967296 ∧ i = .int .i64 j ∧ v = .int .u32 X ∧ Crc.tab k = Crc.sh (8 - j) X) (fun _ i => 8 - (intOf i).toNat)
      case atStart => exact ⟨0, k, by omega, by omega, rfl, rfl, rfl⟩
      case round =>
        obtain ⟨j, X, hj, hX, rfl, rfl, hd⟩ := hrel
        have HD := hide hd
        clear hd
        have h1 := and1_u32 X hX
        have h2 := poly_u32 X hX
        by_cases hjt : j < 8
        · by_cases hp : X % 2 = 1
          · have h3 : (((X % 2 : Nat) : Int) == 1) = true := by rw [hp]; rfl
            go_wp2
            go_round
            case rel => exact ⟨j + 1, _, by omega, poly_lt X hX, by go_num, rfl, by rw [HD.out, sh_step1 X j hp hjt]⟩
            case measure => simp [intOf]; omega
          · have h3 : (((X % 2 : Nat) : Int) == 1) = false := by simp; omega
            go_wp2
            go_round
            case rel => exact ⟨j + 1, X / 2, by omega, by omega, by go_num, by go_num, by rw [HD.out, sh_step0 X j hp hjt]⟩
            case measure => simp [intOf]; omega
        · obtain rfl : j = 8 := by omega
          clear h1 h2
          have hc : wr.cell? ⟨w.heap.size + 1, k, none⟩ = some (tabF k k) := by rw [ht.cell, tabA_get k k hlt]
          have hf := ht.free k
          have hX' : Crc.tab k = X := by rw [HD.out]; rfl
          have hb' := hb.setCell (p := ⟨w.heap.size + 1, k, none⟩) (by simp) (.int .u32 (X : Nat))
          have hr' := hr.other (p := ⟨w.heap.size + 1, k, none⟩) (by simp) (.int .u32 (X : Nat))
          have ht' := ht.store k (.int .u32 (X : Nat))
          rw [← hX', tabA_step k hlt, hX'] at ht'
          have HX := hide hX'
          clear hX' HD hb hr ht
          go_wp2
          go_roundw
          case rel => exact ⟨k + 1, by omega, by go_num, hb', hr', ht'⟩
          case measure => simp [intOf]; omega
    · obtain rfl : k = 256 := by omega
      have hi : (Try.prog.info? 117).map (·.size) = some (tabA 256).size := by rw [tabA_size]; exact info_tab
      go_wp2_with (first
        | refine wpList_load_row rfl 117 (.tmp 1) rfl (w.heap.size + 1) rfl 117 (tabA 256) (0, 0) _ ht.out Try.underlying117 rfl hi ?_
        | refine wpList_store_row rfl 117 (.tmp 0) (.tmp 25) rfl w.heap.size (tabA 256) rfl rfl 117 (tabA 0) hr.out hi (by rw [tabA_size, tabA_size]) (tabA_one 256) ?_)
      exact bodyPost_ret (v := .agg (tabA 256)) (results_cell_row rfl _ _ w.heap.size 117 (tabA 256) (0, 0) _ rfl (setRow_heap wr w.heap.size (tabA 0) (tabA 256) _ _ hr.out) Try.underlying117 rfl hi) rfl ⟨rfl, below_setRow hb (Nat.le_refl _) _⟩
end Go.Proofs.Ytjbdfmniiiaakaa
