/- The cursor's number and the reader's readKind, readTime and readText leave in the reader what was read, for byte strings of at most 1000000 bytes. -/
import Derived.Test.YtjbdfmniiiaakaaEnc
import Derived.Test.YtjbdfmniiiaakaaVer
import Derived.Test.YtjbdfmniiiaakaaLen
import Derived.Test.YtjbdfmniiiaakaaOnly
import Derived.Deep.QuietTactic
import Derived.BigQuiet
import Derived.Deep.RegionWith
namespace Go.Proofs.Ytjbdfmniiiaakaa
set_option linter.unusedVariables false
open Go.RowKit

/-- the reader's cells. -/
def rd (A : Option Addr) (n cap : Nat) (a e k t : Int) (s : ByteArray) : Array Value := #[.slice A n cap, .int .i64 a, .int .i64 e, .int .u64 k, .int .u64 t, .string s]

set_option maxRecDepth 100000 in
set_option maxHeartbeats 1600000 in
theorem number_any (A : Option Addr) (n cap : Nat) (l : List UInt8) (a e0 k t : Int) (s : ByteArray) (g : Nat) (w : World) (hn : n = l.length) (hl : l.length ≤ 1000000) (hA : Lie w w.heap.size A (bytes l)) (hB : Blk w g 102 (rd A n cap a e0 k t s)) :
    Calls Try.prog 76 #[.pointer (some ⟨g, 0, none⟩)] w fun e w' => e = .returned (.int .u64 ((Bin.dU l a).v : Nat)) ∧ Blk w' g 102 (rd A n cap (Bin.dU l a).next (Bin.dU l a).e k t s) ∧ Only w w' (· = g) := by
  have c0 : w.cell? ⟨g, 0, none⟩ = some (.slice A n cap) := hB.cell 0
  have c1 : w.cell? ⟨g, 1, none⟩ = some (.int .i64 a) := hB.cell 1
  have c2 : w.cell? ⟨g, 2, none⟩ = some (.int .i64 e0) := hB.cell 2
  have f1 := hB.free 1
  have f2 := hB.free 2
  have hu := hide (fun m => Calls.mono (uint_any A n cap l a (w.drewN m) hn hl hA) (fun e w' h => And.intro h.1 h.2.symm))
  have HB := hide hB
  clear hA hB hn
  go_enter Try.func76, Try.ntmps76
  go_wp2_with fail
  go_quiet ((go_at_call 57; refine Calls.quiet_of_same (hu.out _)))
  go_wp2_with fail
  go_ret
  exact ⟨rfl, ((show Blk (w.drewN nq) g _ _ from HB.out).store 1 _).store 2 _, (((Only.refl w (· = g)).drewN nq).setCell (p := ⟨g, 1, none⟩) (.inl rfl) _).setCell (p := ⟨g, 2, none⟩) (.inl rfl) _⟩

set_option maxRecDepth 100000 in
set_option maxHeartbeats 1600000 in
theorem readkind_any (A : Option Addr) (n cap : Nat) (l : List UInt8) (a e0 k t : Int) (s : ByteArray) (g : Nat) (w : World) (hn : n = l.length) (hl : l.length ≤ 1000000) (hA : Lie w w.heap.size A (bytes l)) (hB : Blk w g 102 (rd A n cap a e0 k t s)) :
    Calls Try.prog 67 #[.pointer (some ⟨g, 0, none⟩)] w fun e w' => e = .returned (.tuple #[]) ∧ Blk w' g 102 (rd A n cap (Bin.dU l a).next (Bin.dU l a).e (Bin.dU l a).v t s) ∧ Only w w' (· = g) := by
  have hu := hide (number_any A n cap l a e0 k t s g w hn hl hA hB)
  clear hA hB hn
  go_enter Try.func67, Try.ntmps67
  go_wp2_with fail
  refine Calls.mono hu.out ?_
  rintro e w1 ⟨rfl, hB1, hb1⟩
  have c3 : w1.cell? ⟨g, 3, none⟩ = some (.int .u64 k) := hB1.cell 3
  have f3 := hB1.free 3
  have hB1 := hide hB1
  go_wp2_with fail
  go_end0
  exact ⟨rfl, hB1.out.store 3 _, hb1.setCell (p := ⟨g, 3, none⟩) (.inl rfl) _⟩
set_option maxRecDepth 100000 in
set_option maxHeartbeats 1600000 in
theorem readtime_any (A : Option Addr) (n cap : Nat) (l : List UInt8) (a e0 k t : Int) (s : ByteArray) (g : Nat) (w : World) (hn : n = l.length) (hl : l.length ≤ 1000000) (hA : Lie w w.heap.size A (bytes l)) (hB : Blk w g 102 (rd A n cap a e0 k t s)) :
    Calls Try.prog 68 #[.pointer (some ⟨g, 0, none⟩)] w fun e w' => e = .returned (.tuple #[]) ∧ Blk w' g 102 (rd A n cap (Bin.dU l a).next (Bin.dU l a).e k (Bin.dU l a).v s) ∧ Only w w' (· = g) := by
  have hu := hide (number_any A n cap l a e0 k t s g w hn hl hA hB)
  clear hA hB hn
  go_enter Try.func68, Try.ntmps68
  go_wp2_with fail
  refine Calls.mono hu.out ?_
  rintro e w1 ⟨rfl, hB1, hb1⟩
  have c4 : w1.cell? ⟨g, 4, none⟩ = some (.int .u64 t) := hB1.cell 4
  have f4 := hB1.free 4
  have hB1 := hide hB1
  go_wp2_with fail
  go_end0
  exact ⟨rfl, hB1.out.store 4 _, hb1.setCell (p := ⟨g, 4, none⟩) (.inl rfl) _⟩
set_option maxRecDepth 100000 in
set_option maxHeartbeats 3200000 in
theorem readtext_any (A : Option Addr) (n cap : Nat) (l : List UInt8) (a e0 k t : Int) (s : ByteArray) (g : Nat) (w : World) (hn : n = l.length) (hl : l.length ≤ 1000000) (hcap : n ≤ cap) (hA : Lie w w.heap.size A (bytes l)) (hB : Blk w g 102 (rd A n cap a e0 k t s)) :
    Calls Try.prog 69 #[.pointer (some ⟨g, 0, none⟩)] w fun e w' => e = .returned (.tuple #[]) ∧ Blk w' g 102 (rd A n cap (Bin.dB l a 65536).next (Bin.dB l a 65536).e k t ⟨(Bin.dB l a 65536).v.toArray⟩) ∧ Only w w' (· = g) := by
  have c0 : w.cell? ⟨g, 0, none⟩ = some (.slice A n cap) := hB.cell 0
  have c1 : w.cell? ⟨g, 1, none⟩ = some (.int .i64 a) := hB.cell 1
  have hu := hide (bytes_any A n cap l a 65536 w.drew hn hl hcap ⟨by omega, by omega⟩ hA)
  have HB := hide hB
  generalize Bin.dB l a 65536 = G at *
  clear hA hB hn
  go_enter Try.func69, Try.ntmps69
  go_wp2_with fail
  go_region_with (go_at_call 35; refine Calls.mono hu.out ?_; rintro e w1 ⟨A1, d1, rfl, o1, hb1⟩)
  all_goals (
    have hk := HB.out.lt
    have hB1 : Blk w1 g 102 (rd A n cap a e0 k t s) := (show Blk w.drew g _ _ from HB.out).below hb1 hk
    have hb1' : Only w w1 (· = g) := (Only.refl w (· = g)).drew.then_below hb1
    have c1' : w1.cell? ⟨g, 1, none⟩ = some (.int .i64 a) := hB1.cell 1
    have c2' : w1.cell? ⟨g, 2, none⟩ = some (.int .i64 e0) := hB1.cell 2
    have c5' : w1.cell? ⟨g, 5, none⟩ = some (.string s) := hB1.cell 5
    have f1 := hB1.free 1
    have f2 := hB1.free 2
    have f5 := hB1.free 5
    have hs := run_str (P := Try.prog) w1 22 9 5 A1 d1 G.v _ Try.underlying22 Try.underlying5 Try.underlying9 (Lie.of_own o1)
    have HB1 := hide hB1
    clear hB1 o1 c0 c1
    go_wp2_with fail
    go_end0
    exact ⟨rfl, ((HB1.out.store 5 _).store 1 _).store 2 _, ((hb1'.setCell (p := ⟨g, 5, none⟩) (.inl rfl) _).setCell (p := ⟨g, 1, none⟩) (.inl rfl) _).setCell (p := ⟨g, 2, none⟩) (.inl rfl) _⟩)
end Go.Proofs.Ytjbdfmniiiaakaa
