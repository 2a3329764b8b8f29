/- The program's Update returns the checksum's continuation, for byte strings of at most 2^20 bytes. -/
import Derived.Test.YtjbdfmniiiaakaaShift
import Derived.Test.YtjbdfmniiiaakaaTable
namespace Go.Proofs.Ytjbdfmniiiaakaa
set_option linter.unusedVariables false
open Go.RowKit

theorem idx_u8 (X : Nat) (b : UInt8) : bits .xor .u8 ((X : Int) % 256) (b.toNat : Int) = ((X % 256 ^^^ b.toNat : Nat) : Int) := by
  have := u8_xor_nat (X % 256) b.toNat (by omega) b.toNat_lt
  rw [Int.natCast_emod] at this
  exact this
theorem idx_lt (X : Nat) (b : UInt8) : X % 256 ^^^ b.toNat < 256 := Nat.xor_lt_two_pow (n := 8) (by omega) b.toNat_lt
theorem step_u32 (X : Nat) (b : UInt8) (hX : X < 4294967296) : bits .xor .u32 ((X : Int) / 256) ((Crc.tab (X % 256 ^^^ b.toNat) : Nat) : Int) = ((Crc.push X b : Nat) : Int) := by
  have := u32_xor_nat (X / 256) (Crc.tab (X % 256 ^^^ b.toNat)) (by omega) (Crc.tab_lt _ (idx_lt X b))
  rw [Int.natCast_ediv] at this
  rw [Crc.push_table]
  exact this

theorem not_u32 (c : Nat) (hc : c < 4294967296) : bits .xor .u32 IntKind.u32.max (c : Int) = ((c ^^^ Crc.mask : Nat) : Int) := by
  rw [Nat.xor_comm]
  exact u32_xor_nat Crc.mask c Crc.mask_lt hc

set_option maxRecDepth 100000 in
set_option maxHeartbeats 800000 in
theorem update_any (c : Nat) (A : Option Addr) (n cap : Nat) (l : List UInt8) (w : World) (hn : n = l.length) (hc : c < 4294967296) (hl : l.length ≤ 1048576) (hA : Lie w w.heap.size A (bytes l)) :
    Calls Try.prog 78 #[.int .u32 c, .slice A n cap] w fun e w' => e = .returned (.int .u32 (Crc.upd c l : Nat)) ∧ Below w.heap.size w w' := by
  subst hn
  have HZ := hide (show (Try.zeroCells117).size = (tabA 256).size by rw [tabA_zero, tabA_size, tabA_size])
  have HI := hide (show (Try.prog.info? 117).map (·.size) = some (tabA 256).size by rw [tabA_size]; exact info_tab)
  go_enter Try.func78, Try.ntmps78
  go_wp2_with (first
    | (go_at_call 80; refine (table_any _).mono ?_; rintro e w1 ⟨rfl, hb1⟩)
    | (refine wpList_store_row rfl 117 (.tmp 5) (.tmp 8) rfl w1.heap.size (tabA 256) rfl rfl 117 _ (heap_alloc_new w1 _) HI.out HZ.out (tabA_one 256) ?_))
  have hc0 := not_u32 c hc
  have hb2 : Below w.heap.size w ((w1.alloc (.cells Try.zeroCells117 117)).setRow w1.heap.size (tabA 256)) := below_setRow (hb1.alloc hb1.size _) hb1.size _
  have ht2 : Blk ((w1.alloc (.cells Try.zeroCells117 117)).setRow w1.heap.size (tabA 256)) w1.heap.size 117 (tabA 256) := setRow_heap _ _ _ _ _ _ (heap_alloc_new w1 _)
  have hg := hb1.size
  generalize w1.heap.size = g at *
  generalize ((w1.alloc (.cells Try.zeroCells117 117)).setRow g (tabA 256)) = w2 at *
  have hA2 := hA.below hb2
  rw [hc0]
  clear hc0 hA
  go_loop [0, 13] (fun v i => ∃ k X : Nat, k ≤ l.length ∧ X < 4294967296 ∧ i = .int .i64 k ∧ v = .int .u32 X ∧ Crc.run (c ^^^ Crc.mask) l = Crc.run X (l.drop k)) (fun _ i => l.length - (intOf i).toNat)
  case atStart => exact ⟨0, _, by omega, Crc.xmask_lt c hc, rfl, rfl, rfl⟩
  case round =>
    obtain ⟨k, X, hk, hX, rfl, rfl, hd⟩ := hrel
    have HD := hide hd
    clear hd
    by_cases hlt : k < l.length
    · obtain ⟨b, o, rfl, hbB, hcell⟩ := hA2.at_ (k := k) (by rw [bytes_len]; exact hlt)
      rw [bytes_get l k hlt] at hcell
      have h1 := idx_u8 X l[k]
      have h2 := idx_lt X l[k]
      have h3 := step_u32 X l[k] hX
      have h4 : w2.cell? ⟨g, X % 256 ^^^ l[k].toNat, none⟩ = some (.int .u32 (Crc.tab (X % 256 ^^^ l[k].toNat) : Nat)) := by
        rw [ht2.cell, tabA_get _ _ h2, tabF, if_pos h2]
      go_wp2
      go_round
      case rel => exact ⟨k + 1, _, by omega, Crc.push_lt X _ hX, by go_num, rfl, by rw [HD.out, List.drop_eq_getElem_cons hlt]; rfl⟩
      case measure => simp [intOf]; omega
    · obtain rfl : k = l.length := by omega
      have h1 := not_u32 X hX
      go_wp2
      go_ret
      refine ⟨ret_int ?_, hb2⟩
      rw [Crc.upd, HD.out, List.drop_length, Crc.run_nil]
end Go.Proofs.Ytjbdfmniiiaakaa
