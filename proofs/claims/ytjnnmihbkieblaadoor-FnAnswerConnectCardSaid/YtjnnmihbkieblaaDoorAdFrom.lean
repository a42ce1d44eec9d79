/-
  An address read from its text: AddressFrom of the program; l3Of of the reference. Conditions: the text is shorter than 2^32 - 15; the library's tables and error variables read as they were laid.
-/
import Derived.Test.YtjnnmihbkieblaaDoorQuadFrom
import Derived.Test.YtjnnmihbkieblaaDoorConT
import Derived.Deep.RegionHeld3
namespace Go.Proofs.YtjnnmihbkieblaaDoor
open Go.RowKit Go.Sort

/-- Behind an address that is read from a text. -/
def AdGave (s : ByteArray) (w : World) (e : Ending) (w' : World) : Prop :=
  (∃ k q qs nm p, e = .returned (.tuple #[.agg #[.int .i64 k, q, .string nm, .int .i64 p], .bool true]) ∧ IsAd s k qs nm p ∧ Own w' w.heap.size q qs ∧ Below w.heap.size w w') ∨
  (e = .returned (.tuple #[.agg #[.int .i64 0, .slice none 0 0, .string .empty, .int .i64 0], .bool false]) ∧ NoAd s ∧ Below w.heap.size w w')
theorem below_s4 {w W : World} {g : Nat} (h : Below w.heap.size w W) (hg : w.heap.size ≤ g) (x y z u : Value) : Below w.heap.size w (set4 W g x y z u) :=
  (((h.setCell (p := ⟨g, 0, none⟩) hg x).setCell (p := ⟨g, 1, none⟩) hg y).setCell (p := ⟨g, 2, none⟩) hg z).setCell (p := ⟨g, 3, none⟩) hg u
theorem Blk.s4 {w : World} {g : Nat} {t : TypeId} {a b c d : Value} (h : Blk w g t #[a, b, c, d]) (x y z u : Value) : Blk (set4 w g x y z u) g t #[x, y, z, u] := (((h.set_ 0 x).set_ 1 y).set_ 2 z).set_ 3 u
theorem Blk.s4far {w : World} {g B : Nat} {t : TypeId} {cs : Array Value} (h : Blk w g t cs) (hg : g ≠ B) (x y z u : Value) : Blk (set4 w B x y z u) g t cs := (((h.far (p := ⟨B, 0, none⟩) hg x).far (p := ⟨B, 1, none⟩) hg y).far (p := ⟨B, 2, none⟩) hg z).far (p := ⟨B, 3, none⟩) hg u
theorem Cut_yes_b (s a b : ByteArray) (c : UInt8) (w : World) (hs : s.data.toList = a.data.toList ++ c :: b.data.toList) (ha : c ∉ a.data.toList) (hz : s.size ≤ 1000000000000) :
    Calls Tryd.prog 17 #[.string s, .string ⟨#[c]⟩] w fun e w' => e = .returned (.tuple #[.string a, .string b, .bool true]) ∧ Below w.heap.size w w' :=
  (Cut_yes s a b c w hs ha hz).mono fun e w' ⟨h, n, hw⟩ => ⟨h, by rw [hw]; exact below_drewN (Below.refl _ _) n⟩
theorem Cut_no_b (s : ByteArray) (c : UInt8) (w : World) (ha : c ∉ s.data.toList) :
    Calls Tryd.prog 17 #[.string s, .string ⟨#[c]⟩] w fun e w' => e = .returned (.tuple #[.string s, .string ⟨#[]⟩, .bool false]) ∧ Below w.heap.size w w' :=
  (Cut_no s c w ha).mono fun e w' ⟨h, n, hw⟩ => ⟨h, by rw [hw]; exact below_drewN (Below.refl _ _) n⟩
theorem dcm_empty : dcm ⟨#[]⟩ = none := rfl
theorem noAd_valid {s a b : ByteArray} {n k : Int} {qs : List Int} {nm : ByteArray} (hs : s.data.toList = a.data.toList ++ 58 :: b.data.toList) (ha : (58 : UInt8) ∉ a.data.toList) (hb : dcm b = some n) (h : ∀ k' qs' nm' p', IsAd s k' qs' nm' p' → k' = k ∧ qs' = qs ∧ nm' = nm) (hv : adOk k qs nm n = false) : NoAd s := by
  intro k' qs' nm' p' h1
  obtain ⟨rfl, rfl, rfl⟩ := h k' qs' nm' p' h1
  have hp := port_of h1 hs ha hb
  rw [← hp, h1.1] at hv
  cases hv

set_option maxRecDepth 100000 in
set_option maxHeartbeats 4000000 in
theorem impl_AddressFrom_any (s : ByteArray) (w : World) (hs : s.size < 4294967281) (ht : Tabs w) (he : Errs w) : Calls Tryd.prog 8 #[.string s] w fun e w' => AdGave s w e w' := by
  have B0 : Hid (Below w.heap.size w (w.alloc (.cells #[.int .i64 0, .slice none 0 0, .string .empty, .int .i64 0] 27))) := Lib.hid ((Below.refl _ _).alloc (Nat.le_refl _) _)
  have K0 := Lib.hid (Blk.new w 27 #[.int .i64 0, .slice none 0 0, .string .empty, .int .i64 0])
  have HT := Lib.hid ht
  have HE := Lib.hid he
  clear ht he
  rcases cut_cases s.data.toList 58 with hno | ⟨a, b, hab, ha⟩
  · have NA := Lib.hid (noAd_cut hno)
    have HC := Lib.hid (fun W => Cut_no_b s 58 W hno)
    clear hno
    go_enter Tryd.func8, Tryd.ntmps8
    go_wp2_with fail
    refine (HC.out _).mono ?_
    rintro e w1 ⟨rfl, b1⟩
    have B1 := Lib.hid (B0.out.trans (b1.mono B0.out.size))
    have K1 := Lib.hid (K0.out.kept b1)
    clear b1 K0 B0
    go_wp2_with fail
    refine (decimal_no ⟨#[]⟩ _ dcm_empty (by decide) (HT.out.below B1.out) (HE.out.below B1.out)).mono ?_
    rintro e w2 ⟨v, rfl, b2⟩
    have B2 := Lib.hid (B1.out.trans (b2.mono B1.out.size))
    have K2 := Lib.hid (K1.out.kept b2)
    have f0 := K2.out.free 0
    have f1 := K2.out.free 1
    have f2 := K2.out.free 2
    have f3 := K2.out.free 3
    have c0 : w2.cell? ⟨w.heap.size, 0, none⟩ = some (.int .i64 0) := K2.out.cell 0
    have c1 : w2.cell? ⟨w.heap.size, 1, none⟩ = some (.slice none 0 0) := K2.out.cell 1
    have c2 : w2.cell? ⟨w.heap.size, 2, none⟩ = some (.string .empty) := K2.out.cell 2
    have c3 : w2.cell? ⟨w.heap.size, 3, none⟩ = some (.int .i64 0) := K2.out.cell 3
    clear b2 K1 B1
    go_wp2_with fail
    refine bodyPost_ret (v := .tuple #[.agg #[.int .i64 0, .slice none 0 0, .string .empty, .int .i64 0], .bool false]) (by simp [results, Tryd.results8, go_sem, c0, c1, c2, c3]; rfl) rfl ?_
    exact .inr ⟨rfl, NA.out, below_s4 B2.out (Nat.le_refl _) _ _ _ _⟩
  have hsz := (cut_left hab).2.2
  have HC := Lib.hid (fun W => Cut_yes_b s a b 58 W hab ha (by omega))
  have HAB := Lib.hid hab
  have HA := Lib.hid ha
  have haz : a.size < 4294967281 := by omega
  have hbz : b.size < 4294967281 := by omega
  have AZ := Lib.hid haz
  clear hab ha hsz
  go_enter Tryd.func8, Tryd.ntmps8
  go_wp2_with fail
  refine (HC.out _).mono ?_
  rintro e w1 ⟨rfl, b1⟩
  have B1 := Lib.hid (B0.out.trans (b1.mono B0.out.size))
  have K1 := Lib.hid (K0.out.kept b1)
  clear b1 K0 B0
  cases hd : dcm b with
  | none =>
    have NA := Lib.hid (noAd_port HAB.out HA.out hd)
    have HD := Lib.hid hd
    clear hd
    go_wp2_with fail
    refine (decimal_no b _ HD.out hbz (HT.out.below B1.out) (HE.out.below B1.out)).mono ?_
    rintro e w2 ⟨v, rfl, b2⟩
    have B2 := Lib.hid (B1.out.trans (b2.mono B1.out.size))
    have K2 := Lib.hid (K1.out.kept b2)
    have f0 := K2.out.free 0
    have f1 := K2.out.free 1
    have f2 := K2.out.free 2
    have f3 := K2.out.free 3
    have c0 : w2.cell? ⟨w.heap.size, 0, none⟩ = some (.int .i64 0) := K2.out.cell 0
    have c1 : w2.cell? ⟨w.heap.size, 1, none⟩ = some (.slice none 0 0) := K2.out.cell 1
    have c2 : w2.cell? ⟨w.heap.size, 2, none⟩ = some (.string .empty) := K2.out.cell 2
    have c3 : w2.cell? ⟨w.heap.size, 3, none⟩ = some (.int .i64 0) := K2.out.cell 3
    clear b2 K1 B1
    go_wp2_with fail
    refine bodyPost_ret (v := .tuple #[.agg #[.int .i64 0, .slice none 0 0, .string .empty, .int .i64 0], .bool false]) (by simp [results, Tryd.results8, go_sem, c0, c1, c2, c3]; rfl) rfl ?_
    exact .inr ⟨rfl, NA.out, below_s4 B2.out (Nat.le_refl _) _ _ _ _⟩
  | some n =>
    have HD := Lib.hid hd
    clear hd
    go_wp2_with fail
    refine (decimal_ok b n _ HD.out hbz (HT.out.below B1.out)).mono ?_
    rintro e w2 ⟨rfl, b2⟩
    have B2 := Lib.hid (B1.out.trans (b2.mono B1.out.size))
    have K2 := Lib.hid (K1.out.kept b2)
    have z2 : w.heap.size < w2.heap.size := K2.out.lt
    obtain ⟨V, hV⟩ : ∃ V, w2.alloc (.cells #[.int .i64 3, .slice none 0 0, .string a, .int .i64 n] 27) = V := ⟨_, rfl⟩
    have KV : Hid (Blk V w2.heap.size 27 #[.int .i64 3, .slice none 0 0, .string a, .int .i64 n]) := Lib.hid (by rw [← hV]; exact Blk.new _ _ _)
    have JV : Hid (Blk V w.heap.size 27 #[.int .i64 0, .slice none 0 0, .string .empty, .int .i64 0]) := Lib.hid (by rw [← hV]; exact K2.out.alloc _)
    have BV : Hid (Below w.heap.size w V) := Lib.hid (by rw [← hV]; exact B2.out.alloc B2.out.size _)
    have zV : V.heap.size = w2.heap.size + 1 := by rw [← hV]; simp
    clear b2 K1 B1 K2 B2
    go_wp2_with fail
    clear hV
    refine (impl_QuadFrom_any a _ haz (HT.out.below BV.out) (HE.out.below BV.out)).mono ?_
    rintro e w3 (⟨v, q, rfl, hq, hqa, o3, b3⟩ | ⟨A3, c3, rfl, hno, b3⟩)
    · obtain ⟨A, c, rfl, _, _, _⟩ := o3.form
      have HQ := Lib.hid hq
      have HQA := Lib.hid hqa
      have O3 := Lib.hid o3
      have K3 := Lib.hid (KV.out.kept b3)
      have J3 := Lib.hid (JV.out.kept b3)
      have B3 := Lib.hid (BV.out.trans (b3.mono BV.out.size))
      have d0 : w3.cell? ⟨w2.heap.size, 0, none⟩ = some (.int .i64 3) := K3.out.cell 0
      have d1 : w3.cell? ⟨w2.heap.size, 1, none⟩ = some (.slice none 0 0) := K3.out.cell 1
      have d2 : w3.cell? ⟨w2.heap.size, 2, none⟩ = some (.string a) := K3.out.cell 2
      have d3 : w3.cell? ⟨w2.heap.size, 3, none⟩ = some (.int .i64 n) := K3.out.cell 3
      have g0 := K3.out.free 0
      have g1 := K3.out.free 1
      have g2 := K3.out.free 2
      have g3 := K3.out.free 3
      clear hq hqa o3 b3 KV JV BV
      go_wp2_with fail
      refine (impl_AddressValid_any 1 _ _ n q _ (ctx_own O3.out (by omega)).ints.zero (by decide)).mono ?_
      rintro e w4 ⟨rfl, b4⟩
      have K4 := Lib.hid ((K3.out.s4 (.int .i64 1) (.slice A q.length c) (.string ⟨#[]⟩) (.int .i64 n)).kept b4)
      have J4 := Lib.hid ((J3.out.s4far (B := w2.heap.size) (by omega) (.int .i64 1) (.slice A q.length c) (.string ⟨#[]⟩) (.int .i64 n)).kept b4)
      have B4 := Lib.hid ((below_s4 (g := w2.heap.size) B3.out (by omega) (.int .i64 1) (.slice A q.length c) (.string ⟨#[]⟩) (.int .i64 n)).trans (b4.mono (below_s4 (g := w2.heap.size) B3.out (by omega) _ _ _ _).size))
      have O4 := Lib.hid ((ctx_own (B := w2.heap.size) (x := .int .i64 1) (y := .slice A q.length c) (z := .string ⟨#[]⟩) (u := .int .i64 n) O3.out (by omega)).below b4)
      clear d0 d1 d2 d3 g0 g1 g2 g3 b4
      have f0 := J4.out.free 0
      have f1 := J4.out.free 1
      have f2 := J4.out.free 2
      have f3 := J4.out.free 3
      have c0 : w4.cell? ⟨w.heap.size, 0, none⟩ = some (.int .i64 0) := J4.out.cell 0
      have c1 : w4.cell? ⟨w.heap.size, 1, none⟩ = some (.slice none 0 0) := J4.out.cell 1
      have c2 : w4.cell? ⟨w.heap.size, 2, none⟩ = some (.string .empty) := J4.out.cell 2
      have c3 : w4.cell? ⟨w.heap.size, 3, none⟩ = some (.int .i64 0) := J4.out.cell 3
      cases hv : adOk 1 q ⟨#[]⟩ n
      · have NA := Lib.hid (noAd_valid HAB.out HA.out HD.out (fun _ _ _ _ h1 => ad_quad HAB.out HA.out HQ.out HQA.out h1) hv)
        clear hv
        go_wp2_with fail
        refine bodyPost_ret (v := .tuple #[.agg #[.int .i64 0, .slice none 0 0, .string .empty, .int .i64 0], .bool false]) (by simp [results, Tryd.results8, go_sem, c0, c1, c2, c3]; rfl) rfl ?_
        exact .inr ⟨rfl, NA.out, below_s4 B4.out (Nat.le_refl _) _ _ _ _⟩
      · have HV := Lib.hid hv
        have IA : Hid (IsAd s 1 q ⟨#[]⟩ n) := Lib.hid ⟨hv, adT_of HAB.out HD.out (adOk_port hv).1 (by simp only [hostB, if_true]; exact HQA.out)⟩
        clear hv
        have d0 : w4.cell? ⟨w2.heap.size, 0, none⟩ = some (.int .i64 1) := K4.out.cell 0
        have d1 : w4.cell? ⟨w2.heap.size, 1, none⟩ = some (.slice A q.length c) := K4.out.cell 1
        have d2 : w4.cell? ⟨w2.heap.size, 2, none⟩ = some (.string ⟨#[]⟩) := K4.out.cell 2
        have d3 : w4.cell? ⟨w2.heap.size, 3, none⟩ = some (.int .i64 n) := K4.out.cell 3
        go_wp2_with fail
        refine bodyPost_ret (v := .tuple #[.agg #[.int .i64 1, .slice A q.length c, .string ⟨#[]⟩, .int .i64 n], .bool true]) (by simp [results, Tryd.results8, go_sem, c0, c1, c2, c3]) rfl ?_
        exact .inl ⟨1, _, q, ⟨#[]⟩, n, rfl, IA.out, (ctx_own O4.out (by omega)).more (by omega), below_s4 B4.out (Nat.le_refl _) _ _ _ _⟩
    · have HNO := Lib.hid hno
      have K3 := Lib.hid (KV.out.kept b3)
      have J3 := Lib.hid (JV.out.kept b3)
      have B3 := Lib.hid (BV.out.trans (b3.mono BV.out.size))
      have d0 : w3.cell? ⟨w2.heap.size, 0, none⟩ = some (.int .i64 3) := K3.out.cell 0
      have d1 : w3.cell? ⟨w2.heap.size, 1, none⟩ = some (.slice none 0 0) := K3.out.cell 1
      have d2 : w3.cell? ⟨w2.heap.size, 2, none⟩ = some (.string a) := K3.out.cell 2
      have d3 : w3.cell? ⟨w2.heap.size, 3, none⟩ = some (.int .i64 n) := K3.out.cell 3
      clear hno b3 KV JV BV
      go_wp2_with fail
      refine (impl_AddressValid_any 3 _ a n [] _ (Own.nil_ w3 0).ints AZ.out).mono ?_
      rintro e w4 ⟨rfl, b4⟩
      have K4 := Lib.hid (K3.out.kept b4)
      have J4 := Lib.hid (J3.out.kept b4)
      have B4 := Lib.hid (B3.out.trans (b4.mono B3.out.size))
      clear d0 d1 d2 d3 b4
      have f0 := J4.out.free 0
      have f1 := J4.out.free 1
      have f2 := J4.out.free 2
      have f3 := J4.out.free 3
      have c0 : w4.cell? ⟨w.heap.size, 0, none⟩ = some (.int .i64 0) := J4.out.cell 0
      have c1 : w4.cell? ⟨w.heap.size, 1, none⟩ = some (.slice none 0 0) := J4.out.cell 1
      have c2 : w4.cell? ⟨w.heap.size, 2, none⟩ = some (.string .empty) := J4.out.cell 2
      have c3 : w4.cell? ⟨w.heap.size, 3, none⟩ = some (.int .i64 0) := J4.out.cell 3
      cases hv : adOk 3 [] a n
      · have NA := Lib.hid (noAd_valid HAB.out HA.out HD.out (fun _ _ _ _ h1 => ad_name HAB.out HA.out HNO.out h1) hv)
        clear hv
        go_wp2_with fail
        refine bodyPost_ret (v := .tuple #[.agg #[.int .i64 0, .slice none 0 0, .string .empty, .int .i64 0], .bool false]) (by simp [results, Tryd.results8, go_sem, c0, c1, c2, c3]; rfl) rfl ?_
        exact .inr ⟨rfl, NA.out, below_s4 B4.out (Nat.le_refl _) _ _ _ _⟩
      · have HV := Lib.hid hv
        have IA : Hid (IsAd s 3 [] a n) := Lib.hid ⟨hv, adT_of HAB.out HD.out (adOk_port hv).1 (by simp [hostB])⟩
        clear hv
        have d0 : w4.cell? ⟨w2.heap.size, 0, none⟩ = some (.int .i64 3) := K4.out.cell 0
        have d1 : w4.cell? ⟨w2.heap.size, 1, none⟩ = some (.slice none 0 0) := K4.out.cell 1
        have d2 : w4.cell? ⟨w2.heap.size, 2, none⟩ = some (.string a) := K4.out.cell 2
        have d3 : w4.cell? ⟨w2.heap.size, 3, none⟩ = some (.int .i64 n) := K4.out.cell 3
        go_wp2_with fail
        refine bodyPost_ret (v := .tuple #[.agg #[.int .i64 3, .slice none 0 0, .string a, .int .i64 n], .bool true]) (by simp [results, Tryd.results8, go_sem, c0, c1, c2, c3]) rfl ?_
        exact .inl ⟨3, _, [], a, n, rfl, IA.out, Own.nil_ _ _, below_s4 B4.out (Nat.le_refl _) _ _ _ _⟩

/-- Behind a host and a port. -/
def HostGave (h : ByteArray) (p : Int) (w : World) (e : Ending) (w' : World) : Prop :=
  ∃ k q qs nm, e = .returned (.agg #[.int .i64 k, q, .string nm, .int .i64 p]) ∧ Own w' w.heap.size q qs ∧ Below w.heap.size w w' ∧ ((k = 1 ∧ quadOk qs = true ∧ quadB qs = h ∧ nm = ⟨#[]⟩) ∨ (k = 3 ∧ qs = [] ∧ nm = h ∧ NoQuad h))
end Go.Proofs.YtjnnmihbkieblaaDoor
