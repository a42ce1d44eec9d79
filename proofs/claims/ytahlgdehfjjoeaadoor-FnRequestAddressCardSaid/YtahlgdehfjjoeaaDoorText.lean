/-
  The program's reader reads a text: a plain function of the bytes and the place. Conditions: none.
-/
import Derived.Test.YtahlgdehfjjoeaaDoorReader2
import Derived.Test.YtahlgdehfjjoeaaDoorTexts
import Derived.Test.YtahlgdehfjjoeaaDoorRText
namespace Go.Proofs.YtahlgdehfjjoeaaDoor
open Go.RowKit

set_option maxHeartbeats 400000 in
theorem text_any (g : Nat) (v : Value) (zs : List Int) (s : Nat × Bool) (w : World) (hr : Rdr w g v zs s) :
    Calls Tryd.prog 98 #[.pointer (some ⟨g, 0, none⟩)] w fun e w' => e = .returned (.string (strOfNums (rText zs s))) ∧ Took w g v zs (rTextN zs s) w' := by
  have HR := Lib.hid hr
  have hN := rByte_range hr.fit
  obtain ⟨n, hn⟩ : ∃ n : Nat, rByte zs s = (n : Int) := ⟨_, (Int.toNat_of_nonneg hN.1).symm⟩
  have EG : Hid (rText zs s = rGot zs (rNext zs s 1) n) := Lib.hid (by rw [rText, hn, Int.toNat_natCast])
  have EE : Hid (rTextN zs s = rNext zs (rNext zs s 1) n) := Lib.hid (by rw [rTextN, hn, Int.toNat_natCast])
  have HN := Lib.hid hn
  rw [hn] at hN
  clear hr hn
  go_enter Tryd.func98, Tryd.ntmps98
  go_wp2_with fail
  refine (byte_any g v zs s _ HR.out).mono ?_
  rintro e w1 ⟨rfl, t1⟩
  rw [HN.out]
  have T1 := Lib.hid t1
  clear t1
  go_wp2_with fail
  refine (take_any g v zs _ n _ T1.out.1 (by omega)).mono ?_
  rintro e w2 ⟨u, rfl, o2, t2⟩
  have T2 := Lib.hid t2
  have O2 := Lib.hid o2
  clear t2 o2
  go_wp2_with fail
  refine (bytesText_any _ _ _ O2.out.ints.zero (rGot_bytes T1.out.1.fit n) (by rw [rGot_length]; omega)).mono ?_
  rintro e w3 ⟨rfl, b3⟩
  have B3 := Lib.hid b3
  clear b3
  go_wp2_with fail
  go_ret
  rw [EG.out, EE.out]
  exact ⟨rfl, (T1.out.trans T2.out).below B3.out⟩
end Go.Proofs.YtahlgdehfjjoeaaDoor
