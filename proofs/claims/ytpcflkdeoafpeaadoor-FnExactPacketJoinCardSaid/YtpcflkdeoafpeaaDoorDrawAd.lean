/-
  The drawn quad, port, name and address: an address in memory of the call's own; the reader has gone on. Conditions: the reader's counter is small.
-/
import Derived.Test.YtpcflkdeoafpeaaDoorPick
import Derived.Test.YtpcflkdeoafpeaaDoorBlk
import Derived.Test.YtpcflkdeoafpeaaDoorLits
namespace Go.Proofs.YtpcflkdeoafpeaaDoor
open Go.RowKit

/-- Behind a draw of a port. -/
def DrewPort (w : World) (hi g p : Nat) (e : Ending) (w' : World) : Prop := ∃ x p', e = .returned (.int .i64 x) ∧ p' ≤ p + 3 ∧ Rd6 w' hi g p' ∧ w.grownBy w' (some g)

set_option maxRecDepth 100000 in
set_option maxHeartbeats 2000000 in
theorem l91Port_any (hi g p : Nat) (w : World) (hr : Rd6 w hi g p) (hp : p ≤ 900000) :
    Calls Tryd.prog 30 #[.pointer (some ⟨g, 0, none⟩)] w fun e w' => DrewPort w hi g p e w' := by
  have hgw := hr.lt
  have hhi := hr.1
  have HR := Lib.hid hr
  clear hr
  go_enter Tryd.func30, Tryd.ntmps30
  go_wp2_with fail
  refine (pick_any hi g p 40 _ HR.out (by omega) (by omega)).mono ?_
  rintro e w1 ⟨x, rfl, _, hr1, hg1⟩
  have R1 := Lib.hid hr1
  have G1 := Lib.hid hg1
  clear hr1 hg1
  by_cases hx : x = 0
  · subst hx
    go_wp2_with fail
    refine (pick_any hi g (p + 1) 2 _ (R1.out.alloc _) (by omega) (by omega)).mono ?_
    rintro e w2 ⟨x2, rfl, hx2, hr2, hg2⟩
    obtain ⟨j, rfl, hj⟩ := pick_lit 2 rfl (by omega) hx2
    have cj := own_lit_cell (L := [-1, 65536]) (R1.out.alloc _) hg2 (by simp) (j := j) (by simpa using hj)
    obtain ⟨y, hy⟩ : ∃ y, ([-1, 65536] : List Int).getD j 0 = y := ⟨_, rfl⟩
    rw [hy] at cj
    have hji : (j : Int) < 2 := by omega
    have R2 := Lib.hid hr2
    have G2 := Lib.hid (only_trans (only_alloc G1.out _) hg2)
    clear hr2 hg2 hx2 hy
    go_wp2_with fail
    go_ret
    exact ⟨y, p + 1 + 1, rfl, by omega, R2.out, G2.out⟩
  · have hx' : (x == 0) = false := by simpa using hx
    clear hx
    go_wp2_with fail
    refine (pick_any hi g (p + 1) 65536 _ R1.out (by omega) (by omega)).mono ?_
    rintro e w2 ⟨x2, rfl, _, hr2, hg2⟩
    have R2 := Lib.hid hr2
    have G2 := Lib.hid (only_trans G1.out hg2)
    clear hr2 hg2
    go_wp2_with fail
    refine (pick_any hi g (p + 1 + 1) 5 _ (R2.out.alloc _) (by omega) (by omega)).mono ?_
    rintro e w3 ⟨x3, rfl, hx3, hr3, hg3⟩
    obtain ⟨j, rfl, hj⟩ := pick_lit 5 rfl (by omega) hx3
    have cj := own_lit_cell (L := [0, 80, 443, 65535, x2]) (R2.out.alloc _) hg3 (by simp) (j := j) (by simpa using hj)
    obtain ⟨y, hy⟩ : ∃ y, ([0, 80, 443, 65535, x2] : List Int).getD j 0 = y := ⟨_, rfl⟩
    rw [hy] at cj
    have hji : (j : Int) < 5 := by omega
    have R3 := Lib.hid hr3
    have G3 := Lib.hid (only_trans (only_alloc G2.out _) hg3)
    clear hr3 hg3 hx3 hy
    go_wp2_with fail
    go_ret
    exact ⟨y, p + 1 + 1 + 1, rfl, by omega, R3.out, G3.out⟩

def badNames : List ByteArray := [⟨#[]⟩, ⟨#[97, 46, 46, 98]⟩, ⟨#[46, 97]⟩, ⟨#[97, 46]⟩, ⟨#[65]⟩, ⟨#[97, 95, 98]⟩, ⟨#[97, 98, 99, 100, 101, 102, 103, 104, 105, 106, 107, 108, 109, 110, 111, 112, 113, 114, 115, 116]⟩, ⟨#[97, 98, 99, 100, 101, 102, 103, 104, 105, 106, 107, 108, 109, 110, 111, 112, 113, 114, 115, 116, 117]⟩, ⟨#[97, 46, 57]⟩]
def goodNames : List ByteArray := [⟨#[120, 46, 111, 114, 103]⟩, ⟨#[119, 119, 119, 46, 120, 46, 111, 114, 103]⟩, ⟨#[97]⟩, ⟨#[98, 45, 99, 46, 110, 101, 116]⟩, ⟨#[57, 97, 46, 98]⟩, ⟨#[121]⟩]
set_option maxRecDepth 100000 in
set_option maxHeartbeats 2000000 in
theorem l91Name_any (hi g p : Nat) (w : World) (hr : Rd6 w hi g p) (hp : p ≤ 900000) :
    Calls Tryd.prog 31 #[.pointer (some ⟨g, 0, none⟩)] w fun e w' => ∃ s p', e = .returned (.string s) ∧ s.size ≤ 21 ∧ p' ≤ p + 2 ∧ Rd6 w' hi g p' ∧ w.grownBy w' (some g) := by
  have HR := Lib.hid hr
  clear hr
  go_enter Tryd.func31, Tryd.ntmps31
  go_wp2_with fail
  refine (pick_any hi g p 20 _ HR.out (by omega) (by omega)).mono ?_
  rintro e w1 ⟨x, rfl, _, hr1, hg1⟩
  have R1 := Lib.hid hr1
  have G1 := Lib.hid hg1
  clear hr1 hg1
  by_cases hx : x = 0
  · subst hx
    go_wp2_with fail
    refine (of_any hi g (p + 1) _ 9 9 21 badNames _ (R1.out.alloc _) (by omega) (strs_at rfl) rfl (by omega) (by omega) (by decide)).mono ?_
    rintro e w2 ⟨s, rfl, hs, r2, g2⟩
    have R2 := Lib.hid r2
    have G2 := Lib.hid (only_trans (only_alloc G1.out _) g2)
    clear r2 g2
    go_wp2_with fail
    go_ret
    exact ⟨s, p + 1 + 1, rfl, hs, by omega, R2.out, G2.out⟩
  · have hx' : (x == 0) = false := by simpa using hx
    clear hx
    go_wp2_with fail
    refine (of_any hi g (p + 1) _ 6 6 21 goodNames _ (R1.out.alloc _) (by omega) (strs_at rfl) rfl (by omega) (by omega) (by decide)).mono ?_
    rintro e w2 ⟨s, rfl, hs, r2, g2⟩
    have R2 := Lib.hid r2
    have G2 := Lib.hid (only_trans (only_alloc G1.out _) g2)
    clear r2 g2
    go_wp2_with fail
    go_ret
    exact ⟨s, p + 1 + 1, rfl, hs, by omega, R2.out, G2.out⟩
end Go.Proofs.YtpcflkdeoafpeaaDoor
