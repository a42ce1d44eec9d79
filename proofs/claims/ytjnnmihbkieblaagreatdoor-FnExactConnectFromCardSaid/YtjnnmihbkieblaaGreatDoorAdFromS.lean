/-
  An address read from its text: AddressFrom of the reference. Conditions: the text is shorter than 2^32 - 15.
-/
import Derived.Test.YtjnnmihbkieblaaGreatDoorAdFrom
namespace Go.Proofs.YtjnnmihbkieblaaGreatDoor
open Go.RowKit Go.Sort

theorem l2Number_b (s : ByteArray) (w : World) : Calls Tryz.prog 53 #[.string s] w fun e w' => e = .returned (.int .i64 (l2N s)) ∧ Below w.heap.size w w' :=
  (l2Number_any s w).mono fun e w' ⟨h, n, hw⟩ => ⟨h, by rw [hw]; exact below_drewN (Below.refl _ _) n⟩
theorem pieces_two {k : Int} {qs : List Int} {nm : ByteArray} {p : Int} (h : adOk k qs nm p = true) : (piecesB 58 (adT k qs nm p)).length = 2 := by
  unfold piecesB
  rw [adT_data, piecesL_hit (host_no h (.inr (by decide))), piecesL_none (dec_no (.inr (by decide)))]
  rfl
theorem noAd_len {s : ByteArray} (h : (piecesB 58 s).length ≠ 2) : NoAd s := by
  rintro k qs nm p ⟨h1, rfl⟩
  exact h (pieces_two h1)
theorem two_parts {s a b : ByteArray} (h : piecesB 58 s = [a, b]) : s.data.toList = a.data.toList ++ 58 :: b.data.toList ∧ (58 : UInt8) ∉ a.data.toList := by
  unfold piecesB at h
  have h1 := glue_pieces 58 s.data.toList
  have h2 := fun p (hp : p ∈ piecesL 58 s.data.toList) => pieces_no hp
  match hp : piecesL 58 s.data.toList with
  | [x, y] =>
    rw [hp] at h h1 h2
    simp only [List.map_cons, List.map_nil, List.cons.injEq, and_true] at h
    obtain ⟨rfl, rfl⟩ := h
    refine ⟨by rw [← h1]; simp [glue, bs], ?_⟩
    have := h2 x (by simp)
    simpa [bs] using this
  | [] => rw [hp] at h; simp at h
  | [_] => rw [hp] at h; simp at h
  | _ :: _ :: _ :: _ => rw [hp] at h; simp at h
theorem port_l2 {s a b : ByteArray} {k : Int} {qs : List Int} {nm : ByteArray} {p : Int} (h : IsAd s k qs nm p) (hs : s.data.toList = a.data.toList ++ 58 :: b.data.toList) (ha : (58 : UInt8) ∉ a.data.toList) : p = l2N b := by
  have h1 := (ad_split h hs ha).2
  have h2 := adOk_port h.1
  rw [← h1, l2N_dec (by omega)]
  omega
/-- The one address that the text may have. -/
theorem one_ad {s a b : ByteArray} {k : Int} {qs : List Int} {nm : ByteArray} (hs : s.data.toList = a.data.toList ++ 58 :: b.data.toList) (ha : (58 : UInt8) ∉ a.data.toList) (hx : (k = 1 ∧ quadOk qs = true ∧ quadB qs = a ∧ nm = ⟨#[]⟩) ∨ (k = 3 ∧ qs = [] ∧ nm = a ∧ NoQuad a)) {k' : Int} {qs' : List Int} {nm' : ByteArray} {p' : Int} (h : IsAd s k' qs' nm' p') : k' = k ∧ qs' = qs ∧ nm' = nm ∧ p' = l2N b := by
  have hp := port_l2 h hs ha
  rcases hx with ⟨rfl, h1, h2, rfl⟩ | ⟨rfl, rfl, rfl, h4⟩
  · obtain ⟨e1, e2, e3⟩ := ad_quad hs ha h1 h2 h
    exact ⟨e1, e2, e3, hp⟩
  · obtain ⟨e1, e2, e3⟩ := ad_name hs ha h4 h
    exact ⟨e1, e2, e3, hp⟩
def OneAd (s : ByteArray) (k : Int) (qs : List Int) (nm : ByteArray) (p : Int) : Prop := ∀ k' qs' nm' p', IsAd s k' qs' nm' p' → k' = k ∧ qs' = qs ∧ nm' = nm ∧ p' = p
theorem noAd_one {s : ByteArray} {k p : Int} {qs : List Int} {nm : ByteArray} (h : OneAd s k qs nm p) (hn : ¬ IsAd s k qs nm p) : NoAd s := by
  intro k' qs' nm' p' h1
  obtain ⟨rfl, rfl, rfl, rfl⟩ := h k' qs' nm' p' h1
  exact hn h1

/-- What stands behind the region: the address's block, the result's block, the quad. -/
def Five (w W : World) (G : Nat) (cs : Array Value) (v : Value) (qs : List Int) : Prop := Blk W G 25 cs ∧ Blk W w.heap.size 25 #[.int .i64 0, .slice none 0 0, .string .empty, .int .i64 0] ∧ Own W (w.heap.size + 1) v qs ∧ Below w.heap.size w W ∧ G ≠ w.heap.size
set_option maxRecDepth 100000 in
set_option maxHeartbeats 8000000 in
theorem spec_AddressFrom_any (s : ByteArray) (w : World) (hs : s.size < 4294967281) : Calls Tryz.prog 29 #[.string s] w fun e w' => AdGave s w e w' := by
  have B0 : Hid (Below w.heap.size w (w.alloc (.cells #[.int .i64 0, .slice none 0 0, .string .empty, .int .i64 0] 25))) := Lib.hid ((Below.refl _ _).alloc (Nat.le_refl _) _)
  have K0 := Lib.hid (Blk.new w 25 #[.int .i64 0, .slice none 0 0, .string .empty, .int .i64 0])
  have hsp := fun W => spec_l2Cut_any s 58 W (by omega)
  have hsz := fun p (hp : p ∈ piecesB 58 s) => piecesB_size hp
  obtain ⟨P, hP⟩ : ∃ P, piecesB 58 s = P := ⟨_, rfl⟩
  rw [hP] at hsp hsz
  have HSP := Lib.hid hsp
  have HP := Lib.hid hP
  have HZ := Lib.hid hsz
  clear hsp hP hsz
  by_cases h2 : P.length = 2
  case neg =>
    have NA := Lib.hid (noAd_len (s := s) (by rw [HP.out]; exact h2))
    obtain ⟨n, hn⟩ : ∃ n, P.length = n := ⟨_, rfl⟩
    have HN := Lib.hid hn
    rw [hn] at h2
    have hne : ((n : Int) == 2) = false := beq_eq_false_iff_ne.2 (by omega)
    clear h2 hn
    go_enter Tryz.func29, Tryz.ntmps29
    go_wp2_with fail
    refine (HSP.out _).mono ?_
    rintro e w1 ⟨v1, rfl, o1, b1⟩
    obtain ⟨A, c, rfl, _, _, _⟩ := o1.form
    rw [HN.out]
    have B2 := Lib.hid (B0.out.trans (b1.mono B0.out.size))
    have K2 := Lib.hid (K0.out.kept b1)
    have f0 := K2.out.free 0
    have f1 := K2.out.free 1
    have f2 := K2.out.free 2
    have f3 := K2.out.free 3
    have c0 : w1.cell? ⟨w.heap.size, 0, none⟩ = some (.int .i64 0) := K2.out.cell 0
    have c1 : w1.cell? ⟨w.heap.size, 1, none⟩ = some (.slice none 0 0) := K2.out.cell 1
    have c2 : w1.cell? ⟨w.heap.size, 2, none⟩ = some (.string .empty) := K2.out.cell 2
    have c3 : w1.cell? ⟨w.heap.size, 3, none⟩ = some (.int .i64 0) := K2.out.cell 3
    clear o1 b1 K0 B0
    go_wp2_with fail
    refine bodyPost_ret (v := .tuple #[.agg #[.int .i64 0, .slice none 0 0, .string .empty, .int .i64 0], .bool false]) (by simp [results, Tryz.results29, go_sem, c0, c1, c2, c3]; rfl) rfl ?_
    exact .inr ⟨rfl, NA.out, below_s4 B2.out (Nat.le_refl _) _ _ _ _⟩
  match P, h2, HSP, HP, HZ with
  | [a, b], _, HSP, HP, HZ =>
  have HAB := Lib.hid (two_parts HP.out)
  have haz : a.size < 4294967281 := by have := HZ.out a (by simp); omega
  have AZ := Lib.hid haz
  obtain ⟨x, hx⟩ : ∃ x, l2N b = x := ⟨_, rfl⟩
  have HX := Lib.hid hx
  have QN := Lib.hid (fun W => l2Number_b b W)
  rw [hx] at QN
  clear haz hx
  go_enter Tryz.func29, Tryz.ntmps29
  go_wp2_with fail
  refine (HSP.out _).mono ?_
  rintro e w1 ⟨v1, rfl, o1, b1⟩
  obtain ⟨A, c, rfl, hc1, hc2, hA⟩ := o1.form
  obtain ⟨g, rfl, hgb, hgl, hs1⟩ := hA.resolve_left (fun h => by cases h)
  have B1 := Lib.hid (B0.out.trans (b1.mono B0.out.size))
  have K1 := Lib.hid (K0.out.kept b1)
  have x0 : w1.cell? ⟨g, 0, none⟩ = some (.string a) := hs1.cell (sv_get (j := 0) (ss := [a, b]) rfl)
  have x1 : w1.cell? ⟨g, 1, none⟩ = some (.string b) := hs1.cell (sv_get (j := 1) (ss := [a, b]) rfl)
  have CV : Hid (∀ W, Below w1.heap.size w1 W → W.cell? ⟨g, 0, none⟩ = some (.string a) ∧ W.cell? ⟨g, 1, none⟩ = some (.string b) ∧ Below w1.heap.size w1 W) := Lib.hid (fun W hb => ⟨(hb.cell (p := ⟨g, 0, none⟩) hgl).trans x0, (hb.cell (p := ⟨g, 1, none⟩) hgl).trans x1, hb⟩)
  have BD : Hid (Below w1.heap.size w1 w1.drew) := Lib.hid (Below.refl _ w1).drew
  have BZ : Hid (Below w1.heap.size w1 ((w1.alloc (.cells #[.int .i64 0, .slice none 0 0, .string ⟨#[]⟩, .int .i64 0] 25)).drew)) := Lib.hid ((Below.refl _ w1).alloc (Nat.le_refl _) _).drew
  have KZ : Hid (Blk ((w1.alloc (.cells #[.int .i64 0, .slice none 0 0, .string ⟨#[]⟩, .int .i64 0] 25)).drew) w1.heap.size 25 #[.int .i64 0, .slice none 0 0, .string ⟨#[]⟩, .int .i64 0]) := Lib.hid (Blk.new w1 _ _)
  have z1 : w.heap.size < w1.heap.size := K1.out.lt
  clear o1 b1 hA hs1 K0 B0
  go_wp2_with fail
  go_region_held3 (fun W => W.cell? ⟨g, 0, none⟩ = some (.string a) ∧ W.cell? ⟨g, 1, none⟩ = some (.string b) ∧ Below w1.heap.size w1 W)
    (first | with_reducible exact CV.out _ BS.out | with_reducible exact CV.out _ BBV.out | with_reducible exact CV.out _ BBZ.out | with_reducible exact CV.out _ BB.out | with_reducible exact CV.out _ BAZ.out | with_reducible exact CV.out _ BA.out | with_reducible exact CV.out _ BZ.out | with_reducible exact CV.out _ BD.out)
    (first
      | (go_at_call 53; refine (QN.out _).mono ?_; rintro e wA ⟨rfl, bA⟩; (first | (have BA := Lib.hid (BZ.out.trans (bA.mono BZ.out.size)); have KA := Lib.hid (KZ.out.kept bA)) | (have BA := Lib.hid (BD.out.trans (bA.mono BD.out.size)))); have BAZ : Hid (Below w1.heap.size w1 (wA.alloc (.cells #[.int .i64 0, .slice none 0 0, .string ⟨#[]⟩, .int .i64 0] 25))) := Lib.hid (BA.out.alloc BA.out.size _); have KAZ := Lib.hid (Blk.new wA 25 #[.int .i64 0, .slice none 0 0, .string ⟨#[]⟩, .int .i64 0]); clear bA)
      | (go_at_call 52; refine (l3Of_any a x _ AZ.out).mono ?_; rintro e wB ⟨k, q, qs, nm, rfl, o4, b4, hx4⟩; obtain ⟨A4, c4, rfl, _, _, _⟩ := o4.form; (first | (have KB := Lib.hid (KA.out.kept b4); have BB := Lib.hid (BA.out.trans (b4.mono BA.out.size)); have GB : Hid (w1.heap.size ≤ w1.heap.size) := Lib.hid (Nat.le_refl _); have d0 : wB.cell? ⟨w1.heap.size, 0, none⟩ = some (.int .i64 0) := KB.out.cell 0; have d1 : wB.cell? ⟨w1.heap.size, 1, none⟩ = some (.slice none 0 0) := KB.out.cell 1; have d2 : wB.cell? ⟨w1.heap.size, 2, none⟩ = some (.string ⟨#[]⟩) := KB.out.cell 2; have d3 : wB.cell? ⟨w1.heap.size, 3, none⟩ = some (.int .i64 0) := KB.out.cell 3; have f0 := KB.out.free 0; have f1 := KB.out.free 1; have f2 := KB.out.free 2; have f3 := KB.out.free 3; have BS := Lib.hid (ctx_below (x := .int .i64 k) (y := .slice A4 qs.length c4) (z := .string nm) (u := .int .i64 x) BB.out GB.out)) | (have KB := Lib.hid (KAZ.out.kept b4); have BB := Lib.hid (BAZ.out.trans (b4.mono BAZ.out.size)); have GB : Hid (w1.heap.size ≤ wA.heap.size) := Lib.hid BA.out.size; have d0 : wB.cell? ⟨wA.heap.size, 0, none⟩ = some (.int .i64 0) := KB.out.cell 0; have d1 : wB.cell? ⟨wA.heap.size, 1, none⟩ = some (.slice none 0 0) := KB.out.cell 1; have d2 : wB.cell? ⟨wA.heap.size, 2, none⟩ = some (.string ⟨#[]⟩) := KB.out.cell 2; have d3 : wB.cell? ⟨wA.heap.size, 3, none⟩ = some (.int .i64 0) := KB.out.cell 3; have f0 := KB.out.free 0; have f1 := KB.out.free 1; have f2 := KB.out.free 2; have f3 := KB.out.free 3; have BS := Lib.hid (ctx_below (x := .int .i64 k) (y := .slice A4 qs.length c4) (z := .string nm) (u := .int .i64 x) BB.out GB.out)) | (have BB := Lib.hid (BA.out.trans (b4.mono BA.out.size)))); have BBZ : Hid (Below w1.heap.size w1 (wB.alloc (.cells #[.int .i64 0, .slice none 0 0, .string ⟨#[]⟩, .int .i64 0] 25))) := Lib.hid (BB.out.alloc BB.out.size _); have BBV : Hid (Below w1.heap.size w1 (wB.alloc (.cells #[.int .i64 k, .slice A4 qs.length c4, .string nm, .int .i64 x] 25))) := Lib.hid (BB.out.alloc BB.out.size _); have O4 := Lib.hid o4; have HX4 := Lib.hid hx4; clear o4 b4 hx4)
      | fail)
  all_goals (go_wp2_with fail)
  all_goals
    have hnz : nm.size < 4294967281 := by
      rcases HX4.out with ⟨_, _, _, rfl⟩ | ⟨_, _, rfl, _⟩
      · decide
      · exact AZ.out
    first
      | (have H5 : Five w (wB.alloc (.cells #[.int .i64 k, .slice A4 qs.length c4, .string nm, .int .i64 x] 25)) wB.heap.size #[.int .i64 k, .slice A4 qs.length c4, .string nm, .int .i64 x] (.slice A4 qs.length c4) qs := ⟨Blk.new wB _ _, (K1.out.kept BB.out).alloc _, (O4.out.alloc _).more (Nat.le_trans z1 BA.out.size), B1.out.trans (BBV.out.mono B1.out.size), Nat.ne_of_gt (Nat.lt_of_lt_of_le z1 BB.out.size)⟩; obtain ⟨U, hU⟩ : ∃ U, wB.alloc (.cells #[.int .i64 k, .slice A4 qs.length c4, .string nm, .int .i64 x] 25) = U := ⟨_, rfl⟩; obtain ⟨G, hG⟩ : ∃ G, wB.heap.size = G := ⟨_, rfl⟩; rw [hU, hG] at H5; rw [hU, hG])
      | (have H5 : Five w ((((wB.setCell ⟨wA.heap.size, 0, none⟩ (.int .i64 k)).setCell ⟨wA.heap.size, 1, none⟩ (.slice A4 qs.length c4)).setCell ⟨wA.heap.size, 2, none⟩ (.string nm)).setCell ⟨wA.heap.size, 3, none⟩ (.int .i64 x)) wA.heap.size #[.int .i64 k, .slice A4 qs.length c4, .string nm, .int .i64 x] (.slice A4 qs.length c4) qs := ⟨KB.out.s4 _ _ _ _, (K1.out.kept BB.out).s4far (Nat.ne_of_lt (Nat.lt_of_lt_of_le z1 BA.out.size)) _ _ _ _, (ctx_own O4.out (by simp)).more (by simp; have := BA.out.size; omega), B1.out.trans (BS.out.mono B1.out.size), Nat.ne_of_gt (Nat.lt_of_lt_of_le z1 BA.out.size)⟩; obtain ⟨U, hU⟩ : ∃ U, (((wB.setCell ⟨wA.heap.size, 0, none⟩ (.int .i64 k)).setCell ⟨wA.heap.size, 1, none⟩ (.slice A4 qs.length c4)).setCell ⟨wA.heap.size, 2, none⟩ (.string nm)).setCell ⟨wA.heap.size, 3, none⟩ (.int .i64 x) = U := ⟨_, rfl⟩; obtain ⟨G, hG⟩ : ∃ G, wA.heap.size = G := ⟨_, rfl⟩; rw [hU, hG] at H5; rw [hU, hG])
      | (have H5 : Five w ((((wB.setCell ⟨w1.heap.size, 0, none⟩ (.int .i64 k)).setCell ⟨w1.heap.size, 1, none⟩ (.slice A4 qs.length c4)).setCell ⟨w1.heap.size, 2, none⟩ (.string nm)).setCell ⟨w1.heap.size, 3, none⟩ (.int .i64 x)) w1.heap.size #[.int .i64 k, .slice A4 qs.length c4, .string nm, .int .i64 x] (.slice A4 qs.length c4) qs := ⟨KB.out.s4 _ _ _ _, (K1.out.kept BB.out).s4far (Nat.ne_of_lt z1) _ _ _ _, (ctx_own O4.out KA.out.lt).more (Nat.le_trans z1 BA.out.size), B1.out.trans (BS.out.mono B1.out.size), Nat.ne_of_gt z1⟩; obtain ⟨U, hU⟩ : ∃ U, (((wB.setCell ⟨w1.heap.size, 0, none⟩ (.int .i64 k)).setCell ⟨w1.heap.size, 1, none⟩ (.slice A4 qs.length c4)).setCell ⟨w1.heap.size, 2, none⟩ (.string nm)).setCell ⟨w1.heap.size, 3, none⟩ (.int .i64 x) = U := ⟨_, rfl⟩; obtain ⟨G, hG⟩ : ∃ G, w1.heap.size = G := ⟨_, rfl⟩; rw [hU, hG] at H5; rw [hU, hG])
    have K5 := Lib.hid H5.1
    have J5 := Lib.hid H5.2.1
    have O5 := Lib.hid H5.2.2.1
    have B5 := Lib.hid H5.2.2.2.1
    have hGn := H5.2.2.2.2
    have ONE : Hid (OneAd s k qs nm x) := Lib.hid (fun k' qs' nm' p' h => by rw [← HX.out]; exact one_ad HAB.out.1 HAB.out.2 HX4.out h)
    clear H5 hU hG x0 x1 hgb hgl hc1 hc2 CV BD BZ KZ
    refine (spec_AddressValid_any k _ nm x qs _ O5.out.ints.zero hnz).mono ?_
    rintro e w6 ⟨rfl, b6⟩
    have K6 := Lib.hid (K5.out.kept b6)
    have J6 := Lib.hid (J5.out.kept b6)
    have O6 := Lib.hid (O5.out.below b6)
    have B6 := Lib.hid (B5.out.trans (b6.mono B5.out.size))
    have j0 : w6.cell? ⟨w.heap.size, 0, none⟩ = some (.int .i64 0) := J6.out.cell 0
    have j1 : w6.cell? ⟨w.heap.size, 1, none⟩ = some (.slice none 0 0) := J6.out.cell 1
    have j2 : w6.cell? ⟨w.heap.size, 2, none⟩ = some (.string .empty) := J6.out.cell 2
    have j3 : w6.cell? ⟨w.heap.size, 3, none⟩ = some (.int .i64 0) := J6.out.cell 3
    have k0 : w6.cell? ⟨G, 0, none⟩ = some (.int .i64 k) := K6.out.cell 0
    have k1 : w6.cell? ⟨G, 1, none⟩ = some (.slice A4 qs.length c4) := K6.out.cell 1
    have k2 : w6.cell? ⟨G, 2, none⟩ = some (.string nm) := K6.out.cell 2
    have k3 : w6.cell? ⟨G, 3, none⟩ = some (.int .i64 x) := K6.out.cell 3
    have f0 := J6.out.free 0
    have f1 := J6.out.free 1
    have f2 := J6.out.free 2
    have f3 := J6.out.free 3
    clear b6
    cases hv : adOk k qs nm x
    · have NA := Lib.hid (noAd_one ONE.out (fun h => by rw [h.1] at hv; cases hv))
      clear hv
      go_wp2_with fail
      refine bodyPost_ret (v := .tuple #[.agg #[.int .i64 0, .slice none 0 0, .string .empty, .int .i64 0], .bool false]) (by simp [results, Tryz.results29, go_sem, j0, j1, j2, j3]; rfl) rfl ?_
      exact .inr ⟨rfl, NA.out, below_s4 B6.out (Nat.le_refl _) _ _ _ _⟩
    · have HV := Lib.hid hv
      obtain ⟨T, hT⟩ : ∃ T, adT k qs nm x = T := ⟨_, rfl⟩
      have EX : Hid (adX k qs nm x = T) := Lib.hid (by rw [← hT]; exact adX_ok hv)
      have ET := Lib.hid hT
      clear hv hT
      go_wp2_with fail
      refine (spec_AddressText_any k _ nm x qs _ O6.out.ints.zero hnz).mono ?_
      rintro e w7 ⟨rfl, b7⟩
      rw [EX.out]
      clear j0 j1 j2 j3 k0 k1 k2 k3 f0 f1 f2 f3
      have K7 := Lib.hid (K6.out.kept b7)
      have J7 := Lib.hid (J6.out.kept b7)
      have O7 := Lib.hid (O6.out.below b7)
      have B7 := Lib.hid (B6.out.trans (b7.mono B6.out.size))
      have j0 : w7.cell? ⟨w.heap.size, 0, none⟩ = some (.int .i64 0) := J7.out.cell 0
      have j1 : w7.cell? ⟨w.heap.size, 1, none⟩ = some (.slice none 0 0) := J7.out.cell 1
      have j2 : w7.cell? ⟨w.heap.size, 2, none⟩ = some (.string .empty) := J7.out.cell 2
      have j3 : w7.cell? ⟨w.heap.size, 3, none⟩ = some (.int .i64 0) := J7.out.cell 3
      have k0 : w7.cell? ⟨G, 0, none⟩ = some (.int .i64 k) := K7.out.cell 0
      have k1 : w7.cell? ⟨G, 1, none⟩ = some (.slice A4 qs.length c4) := K7.out.cell 1
      have k2 : w7.cell? ⟨G, 2, none⟩ = some (.string nm) := K7.out.cell 2
      have k3 : w7.cell? ⟨G, 3, none⟩ = some (.int .i64 x) := K7.out.cell 3
      have f0 := J7.out.free 0
      have f1 := J7.out.free 1
      have f2 := J7.out.free 2
      have f3 := J7.out.free 3
      clear b7
      by_cases hTs : T = s
      · have IA : Hid (IsAd s k qs nm x) := Lib.hid ⟨HV.out, ET.out.trans hTs⟩
        subst hTs
        go_wp2_with fail
        refine bodyPost_ret (v := .tuple #[.agg #[.int .i64 k, .slice A4 qs.length c4, .string nm, .int .i64 x], .bool true]) (by simp [results, Tryz.results29, go_sem, j0, j1, j2, j3]) rfl ?_
        exact .inl ⟨k, _, qs, nm, x, rfl, IA.out, (ctx_own O7.out (Nat.lt_succ_self _)).more (Nat.le_succ _), below_s4 B7.out (Nat.le_refl _) _ _ _ _⟩
      · have NA := Lib.hid (noAd_one ONE.out (fun h => hTs (ET.out.symm.trans h.2)))
        have hne := beq_no hTs
        clear hTs
        go_wp2_with fail
        refine bodyPost_ret (v := .tuple #[.agg #[.int .i64 0, .slice none 0 0, .string .empty, .int .i64 0], .bool false]) (by simp [results, Tryz.results29, go_sem, j0, j1, j2, j3]; rfl) rfl ?_
        exact .inr ⟨rfl, NA.out, below_s4 B7.out (Nat.le_refl _) _ _ _ _⟩
end Go.Proofs.YtjnnmihbkieblaaGreatDoor
