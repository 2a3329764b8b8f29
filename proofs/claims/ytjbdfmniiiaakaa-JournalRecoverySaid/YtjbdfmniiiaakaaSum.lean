/- CRC32, the reference's Update and Sum, the four bytes of a checksum, and Same are what they should be, for byte strings of at most 2^20 bytes. -/
import Derived.Test.YtjbdfmniiiaakaaUpd
import Derived.Test.YtjbdfmniiiaakaaEnt
namespace Go.Proofs.Ytjbdfmniiiaakaa
set_option linter.unusedVariables false
open Go.RowKit

set_option maxRecDepth 100000 in
set_option maxHeartbeats 800000 in
theorem crc_any (A : Option Addr) (n cap : Nat) (l : List UInt8) (w : World) (hn : n = l.length) (hl : l.length ≤ 1048576) (hA : Lie w w.heap.size A (bytes l)) :
    Calls Try.prog 74 #[.slice A n cap] w fun e w' => e = .returned (.int .u32 (Crc.sum l : Nat)) ∧ Below w.heap.size w w' := by
  subst hn
  go_enter Try.func74, Try.ntmps74
  go_wp2_with (go_at_call 78; refine (update_any 0 A _ cap l _ rfl (by omega) hl hA).mono ?_; rintro e w1 ⟨rfl, hb1⟩)
  go_ret
  exact ⟨rfl, hb1⟩

set_option maxRecDepth 100000 in
set_option maxHeartbeats 800000 in
theorem refupd_any (c : Nat) (A : Option Addr) (n cap : Nat) (l : List UInt8) (w : World) (hn : n = l.length) (hc : c < 4294967296) (hl : l.length ≤ 1048576) (hA : Lie w w.heap.size A (bytes l)) :
    Calls Try.prog 79 #[.int .u32 c, .slice A n cap] w fun e w' => e = .returned (.int .u32 (Crc.upd c l : Nat)) ∧ w = w' := by
  subst hn
  have hc0 := not_u32 c hc
  go_enter Try.func79, Try.ntmps79
  go_wp2_with fail
  clear hc0
  go_loop [0, 5] (fun v i => ∃ k X : Nat, k ≤ l.length ∧ X < 4294967296 ∧ i = .int .i64 k ∧ v = .int .u32 X ∧ Crc.run (c ^^^ Crc.mask) l = Crc.run X (l.drop k)) (fun _ i => l.length - (intOf i).toNat)
  case atStart => exact ⟨0, _, by omega, Crc.xmask_lt c hc, rfl, rfl, rfl⟩
  case round =>
    obtain ⟨k, X, hk, hX, rfl, rfl, hd⟩ := hrel
    have HD := hide hd
    clear hd
    by_cases hlt : k < l.length
    · obtain ⟨b, o, rfl, hbB, hcell⟩ := hA.at_ (k := k) (by rw [bytes_len]; exact hlt)
      rw [bytes_get l k hlt] at hcell
      go_wp2_with (go_at_call 81; refine (shift_any X l[k] _ hX).mono ?_; rintro e w1 ⟨rfl, rfl⟩)
      go_round
      case rel => exact ⟨k + 1, _, by omega, Crc.push_lt X _ hX, by go_num, rfl, by rw [HD.out, List.drop_eq_getElem_cons hlt]; rfl⟩
      case measure => simp [intOf]; omega
    · obtain rfl : k = l.length := by omega
      have h1 := not_u32 X hX
      go_wp2_with fail
      go_ret
      refine ⟨ret_int ?_, rfl⟩
      rw [Crc.upd, HD.out, List.drop_length, Crc.run_nil]

set_option maxRecDepth 100000 in
set_option maxHeartbeats 800000 in
theorem refsum_any (A : Option Addr) (n cap : Nat) (l : List UInt8) (w : World) (hn : n = l.length) (hl : l.length ≤ 1048576) (hA : Lie w w.heap.size A (bytes l)) :
    Calls Try.prog 75 #[.slice A n cap] w fun e w' => e = .returned (.int .u32 (Crc.sum l : Nat)) ∧ w = w' := by
  subst hn
  go_enter Try.func75, Try.ntmps75
  go_wp2_with (go_at_call 79; refine (refupd_any 0 A _ cap l _ rfl (by omega) hl hA).mono ?_; rintro e w1 ⟨rfl, rfl⟩)
  go_ret
  exact ⟨rfl, rfl⟩

theorem seal_cells (c : Nat) (hc : c < 4294967296) : (bytes (Ent.tail4 c)).toArray =
    #[Value.int .u8 ((c : Int) / 16777216), Value.int .u8 ((c : Int) / 65536 % 256), Value.int .u8 ((c : Int) / 256 % 256), Value.int .u8 ((c : Int) % 256)] := by
  simp only [bytes, Ent.tail4, List.map_cons, List.map_nil, UInt8.toNat_ofNat']
  exact congrArg List.toArray (List.cons_eq_cons.2 ⟨int_eq (by omega), List.cons_eq_cons.2 ⟨int_eq (by omega), List.cons_eq_cons.2 ⟨int_eq (by omega), List.cons_eq_cons.2 ⟨int_eq (by omega), rfl⟩⟩⟩⟩)
theorem tail4_four (c : Nat) : ∃ s0 s1 s2 s3 : UInt8, Ent.tail4 c = [s0, s1, s2, s3] := ⟨_, _, _, _, rfl⟩
set_option maxRecDepth 100000 in
set_option maxHeartbeats 800000 in
theorem seal_any (c : Nat) (w : World) (hc : c < 4294967296) (s0 s1 s2 s3 : UInt8) (hs : Ent.tail4 c = [s0, s1, s2, s3]) :
    Calls Try.prog 73 #[.int .u32 c] w fun e w' => e = .returned (.agg #[.int .u8 s0.toNat, .int .u8 s1.toNat, .int .u8 s2.toNat, .int .u8 s3.toNat]) ∧ Below w.heap.size w w' := by
  have hb := seal_cells c hc
  rw [hs] at hb
  have HB := hide hb
  clear hb hs
  go_enter Try.func73, Try.ntmps73
  go_wp2_with fail
  refine bodyPost_ret (v := .agg (bytes [s0, s1, s2, s3]).toArray) ?_ rfl ⟨rfl, by go_grown⟩
  rw [HB.out]
  simp [results, Try.results73, go_sem]

set_option maxRecDepth 100000 in
set_option maxHeartbeats 800000 in
theorem same_any (A B : Option Addr) (na nb ca cb : Nat) (l m : List UInt8) (w : World) (hna : na = l.length) (hnb : nb = m.length) (hA : Lie w w.heap.size A (bytes l)) (hB : Lie w w.heap.size B (bytes m)) :
    Calls Try.prog 44 #[.slice A na ca, .slice B nb cb] w fun e w' => e = .returned (.bool (l == m)) ∧ w = w' := by
  subst hna hnb
  have h1 := run_str (P := Try.prog) w 22 9 5 A ca l _ Try.underlying22 Try.underlying5 Try.underlying9 hA
  have h2 := run_str (P := Try.prog) w 22 9 5 B cb m _ Try.underlying22 Try.underlying5 Try.underlying9 hB
  go_enter Try.func44, Try.ntmps44
  go_wp2_with fail
  go_ret
  exact ⟨rfl, rfl⟩
end Go.Proofs.Ytjbdfmniiiaakaa
