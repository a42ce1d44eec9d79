/-
  Decimal numerals: l6Dec of the reference. Conditions: the number is not negative and below 2^40.
-/
import Derived.Test.YtpcflkdeoafpeaaDoorTexts
import Derived.Lib.ItoaLen
import Derived.Test.YtpcflkdeoafpeaaDoorBlk
import Derived.Deep.RegionWith
namespace Go.Proofs.YtpcflkdeoafpeaaDoor
open Go.RowKit

/-- A number's decimal numeral. -/
def decB (n : Nat) : ByteArray := ⟨(Lib.decDigits n).toArray⟩
theorem digit_chr (r : Nat) : strOfNums [48 + (r : Int)] = ⟨#[UInt8.ofNat (48 + r)]⟩ := by
  have h : ((48 : Int) + (r : Int)).toNat = 48 + r := by omega
  show (⟨([48 + (r : Int)].map fun n => UInt8.ofNat n.toNat).toArray⟩ : ByteArray) = _
  rw [List.map_cons, List.map_nil, h]
theorem decB_small {n : Nat} (h : n < 10) : decB n = strOfNums [48 + (n : Int)] := by
  unfold decB
  rw [Lib.decDigits, dif_pos h, digit_chr]
theorem decB_big {n : Nat} (h : ¬ n < 10) : decB n = decB (n / 10) ++ strOfNums [48 + ((n % 10 : Nat) : Int)] := by
  unfold decB
  rw [Lib.decDigits, dif_neg h, digit_chr]
  apply ByteArray.ext
  simp
theorem decB_size (n : Nat) : (decB n).size = Lib.nDigits n := by
  rw [← Lib.decDigits_length]
  simp [decB, ByteArray.size]
theorem decB_size_le {n : Nat} (h : n ≤ 1099511627776) : (decB n).size ≤ 20 := by
  rw [decB_size]
  exact Lib.nDigits_le20 n (by omega)
/-- The one byte that the literal has, as a text. -/
theorem chr_of {W : World} {g : Nat} {r : Nat} (h : Blk W g 5 #[.int .u8 (48 + (r : Int))]) : (convert 22 9 (.slice (some ⟨g, 0, none⟩) 1 1)).run Tryd.prog W = .ok (.string (strOfNums [48 + (r : Int)])) W :=
  str_of_row (w := W) (b := g) (c := 1) (zs := [48 + (r : Int)]) ⟨_, h, fun j u hu => by simpa [uv] using hu⟩ rfl
theorem chr_new (W : World) (r : Nat) : (convert 22 9 (.slice (some ⟨W.heap.size, 0, none⟩) 1 1)).run Tryd.prog (W.alloc (.cells #[.int .u8 (48 + (r : Int))] 5)) = .ok (.string (strOfNums [48 + (r : Int)])) (W.alloc (.cells #[.int .u8 (48 + (r : Int))] 5)) := chr_of (Blk.new _ _ _)
/-- A walk over all orders of a region by its states: what is proved of a state may lean on all states with less left. -/
theorem wpAny_memo {P : Program} {md : Region.Mode} {ops : Array Oper} {Q : Exit → Act → World → Prop} (I : Nat → Array Bool → Act → World → Prop)
    (h : ∀ n listed a w, (∀ m, m < n → ∀ l a w, I m l a w → wpAny P md ops Q m l a w) → I n listed a w → wpAny P md ops Q n listed a w) :
    ∀ n listed a w, I n listed a w → wpAny P md ops Q n listed a w := by
  intro n
  induction n using Nat.strongRecOn with
  | ind n ih => exact fun listed a w hI => h n listed a w (fun m hm l a w hI => ih m hm l a w hI) hI
/-- In the midst of the last region: the literal is there (b). -/
def DecSt (w : World) (r : Nat) (b : Bool) (g : Nat) (W : World) : Prop := Below w.heap.size w W ∧ (b = true → Blk W g 5 #[.int .u8 (48 + (r : Int))])
theorem DecSt.call {w W W' : World} {r g : Nat} {b : Bool} (h : DecSt w r b g W) (hb : Below W.heap.size W W') : DecSt w r b g W' := ⟨h.1.trans (hb.mono h.1.size), fun e => (h.2 e).kept hb⟩
theorem DecSt.lit {w W : World} {r g : Nat} {b : Bool} (h : DecSt w r b g W) : DecSt w r true W.heap.size (W.alloc (.cells #[.int .u8 (48 + (r : Int))] 5)) := ⟨h.1.alloc h.1.size _, fun _ => Blk.new _ _ _⟩
/-- What has come up, and what holds then. -/
def DecInv (w : World) (r : Nat) (D : ByteArray) (s0 s1 s2 s3 s4 s5 s6 s7 s8 s9 s10 s11 s12 s13 s14 s15 s16 s17 s18 s19 s20 s21 s22 s23 s24 s25 s26 s27 : Value) (n : Nat) (listed : Array Bool) (a : Act) (W : World) : Prop :=
  ∃ (g : Nat),
    (n = 5 ∧ listed = #[true, true, false, true, true, true, true, false, false, false, false] ∧ a = { tmps := #[s0, s1, s2, s3, s4, s5, s6, s7, s8, s9, s10, s11, s12, s13, s14, s15, s16, s17, s18, s19, s20, s21, s22, s23, s24, s25, s26, s27], defers := [] } ∧ DecSt w r false g W) ∨
    (n = 4 ∧ listed = #[true, true, true, true, true, true, true, false, false, false, false] ∧ a = { tmps := #[s0, s1, s2, s3, s4, s5, s6, s7, s8, s9, s10, s11, s12, s13, s14, s15, s16, s17, s18, s19, .string D, s21, s22, s23, s24, s25, s26, s27], defers := [] } ∧ DecSt w r false g W) ∨
    (n = 4 ∧ listed = #[true, true, false, true, true, true, true, true, false, false, false] ∧ a = { tmps := #[s0, s1, s2, s3, s4, s5, s6, s7, s8, s9, s10, s11, s12, s13, s14, s15, s16, s17, s18, s19, s20, s21, s22, s23, s24, .slice (some ⟨g, 0, none⟩) 1 1, s26, s27], defers := [] } ∧ DecSt w r true g W) ∨
    (n = 3 ∧ listed = #[true, true, true, true, true, true, true, true, false, false, false] ∧ a = { tmps := #[s0, s1, s2, s3, s4, s5, s6, s7, s8, s9, s10, s11, s12, s13, s14, s15, s16, s17, s18, s19, .string D, s21, s22, s23, s24, .slice (some ⟨g, 0, none⟩) 1 1, s26, s27], defers := [] } ∧ DecSt w r true g W) ∨
    (n = 3 ∧ listed = #[true, true, false, true, true, true, true, true, true, false, false] ∧ a = { tmps := #[s0, s1, s2, s3, s4, s5, s6, s7, s8, s9, s10, s11, s12, s13, s14, s15, s16, s17, s18, s19, s20, s21, s22, s23, s24, .slice (some ⟨g, 0, none⟩) 1 1, .string (strOfNums [48 + (r : Int)]), s27], defers := [] } ∧ DecSt w r true g W) ∨
    (n = 0 ∧ listed = #[true, true, true, true, true, true, true, true, true, true, true] ∧ a = { tmps := #[s0, s1, .string (D ++ strOfNums [48 + (r : Int)]), s3, s4, s5, s6, s7, s8, s9, s10, s11, s12, s13, s14, s15, s16, s17, s18, s19, .string D, s21, s22, s23, s24, .slice (some ⟨g, 0, none⟩) 1 1, .string (strOfNums [48 + (r : Int)]), .string (D ++ strOfNums [48 + (r : Int)])], defers := [] } ∧ DecSt w r true g W)

set_option maxRecDepth 100000 in
set_option maxHeartbeats 2000000 in
theorem l6Dec_upto (k : Nat) : ∀ (n : Nat) (w : World), n ≤ k → n ≤ 1099511627776 → Calls Tryd.prog 57 #[.int .i64 (n : Int)] w fun e w' => e = .returned (.string (decB n)) ∧ Below w.heap.size w w' := by
  have small : ∀ (n : Nat) (w : World), n < 10 → Calls Tryd.prog 57 #[.int .i64 (n : Int)] w fun e w' => e = .returned (.string (decB n)) ∧ Below w.heap.size w w' := by
    intro n w h10
    have E := Lib.hid (decB_small h10)
    have h1 : ¬ (n : Int) < -9223372036854775807 := by omega
    have h2 : ¬ (n : Int) < 0 := by omega
    have h3 : (n : Int) < 10 := by omega
    have hcv := chr_new w n
    obtain ⟨S, hS⟩ : ∃ S, strOfNums [48 + (n : Int)] = S := ⟨_, rfl⟩
    rw [hS] at hcv E
    clear hS
    go_enter Tryd.func57, Tryd.ntmps57
    go_wp2_with fail
    go_ret
    exact ⟨by rw [E.out]; rfl, (Below.refl _ _).alloc (Nat.le_refl _) _⟩
  induction k with
  | zero => exact fun n w hk _ => small n w (by omega)
  | succ k ih =>
    intro n w hk hn
    by_cases h10 : n < 10
    · exact small n w h10
    have E := Lib.hid (decB_big h10)
    have h1 : ¬ (n : Int) < -9223372036854775807 := by omega
    have h2 : ¬ (n : Int) < 0 := by omega
    have h3 : ¬ (n : Int) < 10 := by omega
    obtain ⟨r, hr⟩ : ∃ r, n % 10 = r := ⟨_, rfl⟩
    obtain ⟨t, ht⟩ : ∃ t, n / 10 = t := ⟨_, rfl⟩
    rw [hr, ht] at E
    have hr2 : (n : Int) % 10 = (r : Int) := by rw [← hr]; rfl
    have ht2 : (n : Int) / 10 = (t : Int) := by rw [← ht]; rfl
    have hr3 : (n : Int).tmod 10 = (r : Int) := by rw [← hr]; rfl
    have ht3 : (n : Int).tdiv 10 = (t : Int) := by rw [← ht]; rfl
    have hw3 : IntKind.i64.wrap (t : Int) = (t : Int) := IntWalk.i64_in _ (by omega)
    have hw2 : IntKind.i64.wrap ((n : Int).tdiv 10) = (t : Int) := by rw [ht3]; exact IntWalk.i64_in _ (by omega)
    have hr9 : r ≤ 9 := by omega
    have htk : t ≤ k := by omega
    have htn : t ≤ 1099511627776 := by omega
    have IH := Lib.hid (fun W => ih t W htk htn)
    have hw1 : IntKind.i64.wrap (48 + (r : Int)) = 48 + (r : Int) := IntWalk.i64_in _ (by omega)
    have hu1 : IntKind.u8.wrap (48 + (r : Int)) = 48 + (r : Int) := IntWalk.u8_in _ (by omega)
    obtain ⟨D, hD⟩ : ∃ D, decB t = D := ⟨_, rfl⟩
    have hDs : D.size ≤ 20 := by rw [← hD]; exact decB_size_le htn
    have hcat : D.size + (strOfNums [48 + (r : Int)]).size ≤ 9223372036854775807 := by rw [strOfNums_size]; simp; omega
    rw [hD] at IH E
    have S0 : DecSt w r false 0 w.drew := ⟨(Below.refl _ _).drew, fun e => by cases e⟩
    have IH2 := Lib.hid IH.out
    clear hr ht ih small hD IH
    go_enter Tryd.func57, Tryd.ntmps57
    go_wp2_with fail
    refine wp_region_any (by kernel_rfl) ?_
    change wpAny _ _ _ _ _ _ _ (World.drew _)
    refine wpAny_take (i := 0) (v := .int .i64 (n : Int)) rfl (by kernel_rfl) (by kernel_rfl) (by kernel_rfl) (fun _ _ _ h => h) (Or.inl ⟨by rfl, by (intro w; go_simp)⟩) ?_
    refine wpAny_take (i := 1) (v := .int .i64 (t : Int)) rfl (by kernel_rfl) (by kernel_rfl) (by kernel_rfl) (fun _ _ _ h => h) (Or.inl ⟨by rfl, by (intro w; go_simp)⟩) ?_
    refine wpAny_take (i := 3) (v := .int .i64 (n : Int)) rfl (by kernel_rfl) (by kernel_rfl) (by kernel_rfl) (fun _ _ _ h => h) (Or.inl ⟨by rfl, by (intro w; go_simp)⟩) ?_
    refine wpAny_take (i := 4) (v := .int .i64 (r : Int)) rfl (by kernel_rfl) (by kernel_rfl) (by kernel_rfl) (fun _ _ _ h => h) (Or.inl ⟨by rfl, by (intro w; go_simp)⟩) ?_
    refine wpAny_take (i := 5) (v := .int .i64 (48 + (r : Int))) rfl (by kernel_rfl) (by kernel_rfl) (by kernel_rfl) (fun _ _ _ h => h) (Or.inl ⟨by rfl, by (intro w; go_simp)⟩) ?_
    refine wpAny_take (i := 6) (v := .int .u8 (48 + (r : Int))) rfl (by kernel_rfl) (by kernel_rfl) (by kernel_rfl) (fun _ _ _ h => h) (Or.inl ⟨by rfl, by (intro w; go_simp)⟩) ?_
    refine wpAny_memo (DecInv w r D _ _ _ _ _ _ _ _ _ _ _ _ _ _ _ _ _ _ _ _ _ _ _ _ _ _ _ _) ?_ _ _ _ _ ⟨0, (Or.inl ⟨rfl, rfl, rfl, S0⟩)⟩
    intro nl listed a W IH hI
    obtain ⟨g, hI⟩ := hI
    rcases hI with ⟨rfl, rfl, rfl, hS⟩ | ⟨rfl, rfl, rfl, hS⟩ | ⟨rfl, rfl, rfl, hS⟩ | ⟨rfl, rfl, rfl, hS⟩ | ⟨rfl, rfl, rfl, hS⟩ | ⟨rfl, rfl, rfl, hS⟩
    · have HS := Lib.hid hS
      clear hS
      refine wpAny_ready (rs := [2, 7]) (by kernel_rfl) (by simp) ?_
      refine AllReady.cons rfl (fun K hK => ?_) ?_
      · go_simp
        refine (IH2.out W).mono ?_
        rintro e w1 ⟨rfl, b1⟩
        have S1 := HS.out.call b1
        clear b1 HS
        refine hK _ _ ?_
        clear hK K
        exact IH _ (by decide) _ _ _ ⟨g, (Or.inr (Or.inl ⟨rfl, rfl, rfl, S1⟩))⟩
      refine AllReady.cons rfl (fun K hK => ?_) ?_
      · go_simp
        refine hK _ _ ?_
        clear hK K
        exact IH _ (by decide) _ _ _ ⟨W.heap.size, (Or.inr (Or.inr (Or.inl ⟨rfl, rfl, rfl, HS.out.lit⟩)))⟩
      exact AllReady.nil
    · have HS := Lib.hid hS
      clear hS
      refine wpAny_ready (rs := [7]) (by kernel_rfl) (by simp) ?_
      refine AllReady.cons rfl (fun K hK => ?_) ?_
      · go_simp
        refine hK _ _ ?_
        clear hK K
        exact IH _ (by decide) _ _ _ ⟨W.heap.size, (Or.inr (Or.inr (Or.inr (Or.inl ⟨rfl, rfl, rfl, HS.out.lit⟩))))⟩
      exact AllReady.nil
    · have HS := Lib.hid hS
      clear hS
      refine wpAny_ready (rs := [2, 8]) (by kernel_rfl) (by simp) ?_
      refine AllReady.cons rfl (fun K hK => ?_) ?_
      · go_simp
        refine (IH2.out W).mono ?_
        rintro e w1 ⟨rfl, b1⟩
        have S1 := HS.out.call b1
        clear b1 HS
        refine hK _ _ ?_
        clear hK K
        exact IH _ (by decide) _ _ _ ⟨g, (Or.inr (Or.inr (Or.inr (Or.inl ⟨rfl, rfl, rfl, S1⟩))))⟩
      refine AllReady.cons rfl (fun K hK => ?_) ?_
      · have hcv := chr_of (HS.out.2 rfl)
        go_simp
        refine hK _ _ ?_
        clear hK K
        exact IH _ (by decide) _ _ _ ⟨g, (Or.inr (Or.inr (Or.inr (Or.inr (Or.inl ⟨rfl, rfl, rfl, HS.out⟩)))))⟩
      exact AllReady.nil
    · have HS := Lib.hid hS
      clear hS
      refine wpAny_ready (rs := [8]) (by kernel_rfl) (by simp) ?_
      refine AllReady.cons rfl (fun K hK => ?_) ?_
      · have hcv := chr_of (HS.out.2 rfl)
        go_simp
        refine hK _ _ ?_
        clear hK K
        refine wpAny_take (i := 9) (v := .string (D ++ strOfNums [48 + (r : Int)])) rfl (by kernel_rfl) (by kernel_rfl) (by kernel_rfl) (fun _ _ _ h => h) (Or.inl ⟨by rfl, by (intro w; go_simp)⟩) ?_
        refine wpAny_take (i := 10) (v := .string (D ++ strOfNums [48 + (r : Int)])) rfl (by kernel_rfl) (by kernel_rfl) (by kernel_rfl) (fun _ _ _ h => h) (Or.inl ⟨by rfl, by (intro w; go_simp)⟩) ?_
        exact IH _ (by decide) _ _ _ ⟨g, (Or.inr (Or.inr (Or.inr (Or.inr (Or.inr ⟨rfl, rfl, rfl, HS.out⟩)))))⟩
      exact AllReady.nil
    · have HS := Lib.hid hS
      clear hS
      refine wpAny_ready (rs := [2]) (by kernel_rfl) (by simp) ?_
      refine AllReady.cons rfl (fun K hK => ?_) ?_
      · go_simp
        refine (IH2.out W).mono ?_
        rintro e w1 ⟨rfl, b1⟩
        have S1 := HS.out.call b1
        clear b1 HS
        refine hK _ _ ?_
        clear hK K
        refine wpAny_take (i := 9) (v := .string (D ++ strOfNums [48 + (r : Int)])) rfl (by kernel_rfl) (by kernel_rfl) (by kernel_rfl) (fun _ _ _ h => h) (Or.inl ⟨by rfl, by (intro w; go_simp)⟩) ?_
        refine wpAny_take (i := 10) (v := .string (D ++ strOfNums [48 + (r : Int)])) rfl (by kernel_rfl) (by kernel_rfl) (by kernel_rfl) (fun _ _ _ h => h) (Or.inl ⟨by rfl, by (intro w; go_simp)⟩) ?_
        exact IH _ (by decide) _ _ _ ⟨g, (Or.inr (Or.inr (Or.inr (Or.inr (Or.inr ⟨rfl, rfl, rfl, S1⟩)))))⟩
      exact AllReady.nil
    · have HS := Lib.hid hS
      clear hS
      refine wpAny_done (by kernel_rfl) ?_ _
      go_wp2_with fail
      go_ret
      exact ⟨by rw [E.out]; rfl, HS.out.1⟩
theorem l6Dec_any (n : Nat) (w : World) (h : n ≤ 1099511627776) : Calls Tryd.prog 57 #[.int .i64 (n : Int)] w fun e w' => e = .returned (.string (decB n)) ∧ Below w.heap.size w w' := l6Dec_upto n n w (Nat.le_refl _) h
end Go.Proofs.YtpcflkdeoafpeaaDoor
