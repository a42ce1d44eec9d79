/-
  PacketCut of the program: the fragments of data, in rows of the call's own. Conditions: the quad and the data read as lists of integers.
-/
import Derived.Test.YtdmkacbjdojkpaaDoorPkts
import Derived.Test.YtdmkacbjdojkpaaDoorPkCopy
import Derived.Test.YtdmkacbjdojkpaaDoorRdAd
import Derived.WalkLawsBesides
namespace Go.Proofs.YtdmkacbjdojkpaaDoor
open Go.RowKit

set_option maxRecDepth 100000 in
set_option maxHeartbeats 4000000 in
theorem impl_PacketCut_any (k : Int) (q : Value) (nm : ByteArray) (p : Int) (qs : List Int) (d : Value) (ds : List Int) (s : Int) (w : World) (hq : Ints w 0 q qs) (hd : Ints w 0 d ds) (hn : nm.size < 4294967281) :
    Calls Tryd.prog 12 #[.agg #[.int .i64 k, q, .string nm, .int .i64 p], d, .int .i64 s] w fun e w' => GaveK w (cutR k qs nm p ds s) (cutOk k qs nm p ds s) e w' := by
  have HQ := Lib.hid hq
  have HD := Lib.hid hd
  obtain ⟨A, c, rfl, hc, hm, _⟩ := hq.open_
  obtain ⟨A9, c9, rfl, hc9, hm9, hA9⟩ := hd.open_
  obtain ⟨V, hV⟩ : ∃ V, w.alloc (.cells #[.int .i64 k, .slice A qs.length c, .string nm, .int .i64 p] 25) = V := ⟨_, rfl⟩
  have K : Hid (Blk V w.heap.size 25 #[.int .i64 k, .slice A qs.length c, .string nm, .int .i64 p]) := Lib.hid (by rw [← hV]; exact Blk.new _ _ _)
  have B : Hid (Below w.heap.size w V) := Lib.hid (by rw [← hV]; exact (Below.refl _ _).alloc (Nat.le_refl _) _)
  have I : Hid (Ints V 0 (.slice A qs.length c) qs) := Lib.hid (by rw [← hV]; exact HQ.out.alloc _)
  have D : Hid (Ints V 0 (.slice A9 ds.length c9) ds) := Lib.hid (by rw [← hV]; exact HD.out.alloc _)
  have zV : V.heap.size = w.heap.size + 1 := by rw [← hV]; simp
  have a0 : V.cell? ⟨w.heap.size, 0, none⟩ = some (.int .i64 k) := K.out.cell 0
  have a1 : V.cell? ⟨w.heap.size, 1, none⟩ = some (.slice A qs.length c) := K.out.cell 1
  have a2 : V.cell? ⟨w.heap.size, 2, none⟩ = some (.string nm) := K.out.cell 2
  have a3 : V.cell? ⟨w.heap.size, 3, none⟩ = some (.int .i64 p) := K.out.cell 3
  clear hq hd
  cases h1 : adOk k qs nm p
  · have E : Hid (cutOk k qs nm p ds s = false) := Lib.hid (by rw [cutOk, h1]; rfl)
    go_enter Tryd.func12, Tryd.ntmps12
    go_wp2_with (go_at_call 37; refine (impl_AddressValid_any k _ nm p qs _ I.out hn).mono ?_; rintro e w1 ⟨rfl, b1⟩; rw [h1])
    have B1 := B.out.trans (b1.mono B.out.size)
    go_ret2
    exact ⟨_, [], by rw [E.out]; rfl, by rw [cutR_not E.out]; rfl, OwnK.nil_ _ _, RowsK.nil_ _ _, ApartK.nil_, B1⟩
  cases h2 : validL ds
  · have E : Hid (cutOk k qs nm p ds s = false) := Lib.hid (by rw [cutOk, h1, h2]; rfl)
    go_enter Tryd.func12, Tryd.ntmps12
    go_wp2_with (first
      | (go_at_call 37; refine (impl_AddressValid_any k _ nm p qs _ I.out hn).mono ?_; rintro e w1 ⟨rfl, b1⟩; rw [h1])
      | (go_at_call 38; refine (impl_BytesValid_any _ ds _ (D.out.below b1)).mono ?_; rintro e w' ⟨rfl, rfl⟩; rw [h2]))
    have B1 := B.out.trans (b1.mono B.out.size)
    go_ret2
    exact ⟨_, [], by rw [E.out]; rfl, by rw [cutR_not E.out]; rfl, OwnK.nil_ _ _, RowsK.nil_ _ _, ApartK.nil_, B1⟩
  cases h3 : inR s 1 40
  · have E : Hid (cutOk k qs nm p ds s = false) := Lib.hid (by rw [cutOk, h1, h2, h3]; rfl)
    go_enter Tryd.func12, Tryd.ntmps12
    go_wp2_with (first
      | (go_at_call 37; refine (impl_AddressValid_any k _ nm p qs _ I.out hn).mono ?_; rintro e w1 ⟨rfl, b1⟩; rw [h1])
      | (go_at_call 38; refine (impl_BytesValid_any _ ds _ (D.out.below b1)).mono ?_; rintro e w' ⟨rfl, rfl⟩; rw [h2])
      | (go_at_call 39; refine (within_any _ _ _ _).mono ?_; rintro e w' ⟨rfl, rfl⟩; rw [h3]))
    have B1 := B.out.trans (b1.mono B.out.size)
    go_ret2
    exact ⟨_, [], by rw [E.out]; rfl, by rw [cutR_not E.out]; rfl, OwnK.nil_ _ _, RowsK.nil_ _ _, ApartK.nil_, B1⟩
  have E : Hid (cutOk k qs nm p ds s = true) := Lib.hid (by rw [cutOk, h1, h2, h3]; rfl)
  have hl120 := validL_len h2
  have hql := (adOk_sizes h1).1
  obtain ⟨n, rfl, hn1, hn40⟩ : ∃ n : Nat, s = n ∧ 1 ≤ n ∧ n ≤ 40 := by
    simp [inR] at h3
    exact ⟨s.toNat, by omega, by omega, by omega⟩
  have EL : Hid (cutR k qs nm p ds (n : Int) = cutL k qs nm p ds n) := Lib.hid (by rw [cutR_ok E.out]; rfl)
  by_cases hle : ds.length ≤ n
  · have hle' : (ds.length : Int) ≤ (n : Int) := by omega
    have EL1 : Hid (cutL k qs nm p ds n = [(0, k, qs, nm, p, ds)]) := Lib.hid (by rw [cutL, if_pos hle])
    have hd2 : ds.length ≤ 1048576 := by omega
    have hq2 : qs.length ≤ 1048576 := by omega
    clear hle
    go_enter Tryd.func12, Tryd.ntmps12
    go_wp2_with (first
      | (go_at_call 37; refine (impl_AddressValid_any k _ nm p qs _ I.out hn).mono ?_; rintro e w1 ⟨rfl, b1⟩; rw [h1]; have K1 := K.out.kept b1; have a0 : w1.cell? ⟨w.heap.size, 0, none⟩ = some (.int .i64 k) := K1.cell 0; have a1 : w1.cell? ⟨w.heap.size, 1, none⟩ = some (.slice A qs.length c) := K1.cell 1; have a2 : w1.cell? ⟨w.heap.size, 2, none⟩ = some (.string nm) := K1.cell 2; have a3 : w1.cell? ⟨w.heap.size, 3, none⟩ = some (.int .i64 p) := K1.cell 3; clear K1)
      | (go_at_call 38; refine (impl_BytesValid_any _ ds _ (D.out.below b1)).mono ?_; rintro e w' ⟨rfl, rfl⟩; rw [h2])
      | (go_at_call 39; refine (within_any _ _ _ _).mono ?_; rintro e w' ⟨rfl, rfl⟩; rw [h3])
      | (go_at_call 40; refine (cloneAddress_any k _ nm p qs _ (I.out.below b1) hq2).mono ?_; rintro e w2 ⟨q2, rfl, o2, b2⟩; obtain ⟨A2, c2, rfl, _, _, _⟩ := o2.form)
      | (go_at_call 41; refine (Clone_any _ ds _ ((D.out.below b1).below b2) hd2).mono ?_; rintro e w3 ⟨d3, rfl, o3, b3⟩; obtain ⟨A3, c3, rfl, _, _, _⟩ := o3.form))
    have B1 := B.out.trans (b1.mono B.out.size)
    have B2 := B1.trans (b2.mono B1.size)
    have B3 := B2.trans (b3.mono B2.size)
    have z1 := B1.size
    have z2 := B2.size
    go_ret2
    exact ⟨_, [((0, k, qs, nm, p, ds), .slice A2 qs.length c2, .slice A3 ds.length c3)], by rw [E.out]; rfl, by rw [EL.out, EL1.out]; rfl, litK1 0 k _ qs nm p _ ds rfl B3.size, (RowsK.snoc (zs := []) (RowsK.nil_ _ _) ((o2.below b3).more (by omega)) (o3.more (by omega))).alloc _, ApartK.one (o2.ahead o3), B3.alloc B3.size _⟩
  have hL : n < ds.length := by omega
  have hle' : ¬ (ds.length : Int) ≤ (n : Int) := by omega
  obtain ⟨b9, o9, rfl, _, hb9, hs9⟩ := hA9.resolve_left (fun h => by rw [h] at hL; simp at hL)
  have S9 : Hid (Seg V 3 b9 o9 (iv ds)) := Lib.hid (by rw [← hV]; exact hs9.alloc _)
  have hq2 : qs.length ≤ 1048576 := by omega
  obtain ⟨L, hLn⟩ : ∃ L, ds.length = L := ⟨_, rfl⟩
  have HLN := Lib.hid hLn
  rw [hLn] at hL hle' hl120 hc9 D ⊢
  have HNL := Lib.hid hle
  clear hle hs9 hA9 hLn
  go_enter Tryd.func12, Tryd.ntmps12
  go_wp2_with (first
    | (go_at_call 37; refine (impl_AddressValid_any k _ nm p qs _ I.out hn).mono ?_; rintro e w1 ⟨rfl, b1⟩; rw [h1]; have K1 := K.out.kept b1; have a0 : w1.cell? ⟨w.heap.size, 0, none⟩ = some (.int .i64 k) := K1.cell 0; have a1 : w1.cell? ⟨w.heap.size, 1, none⟩ = some (.slice A qs.length c) := K1.cell 1; have a2 : w1.cell? ⟨w.heap.size, 2, none⟩ = some (.string nm) := K1.cell 2; have a3 : w1.cell? ⟨w.heap.size, 3, none⟩ = some (.int .i64 p) := K1.cell 3; have KK := Lib.hid K1; clear K1)
    | (go_at_call 38; refine (impl_BytesValid_any _ ds _ (D.out.below b1)).mono ?_; rintro e w' ⟨rfl, rfl⟩; rw [h2])
    | (go_at_call 39; refine (within_any _ _ _ _).mono ?_; rintro e w' ⟨rfl, rfl⟩; rw [h3]))
  have B1 := Lib.hid (B.out.trans (b1.mono B.out.size))
  have I1 := Lib.hid (I.out.below b1)
  have S1 := Lib.hid (S9.out.below b1 S9.out.lt)
  clear b1 hV a0 a1 a2 a3 B I D S9 K HQ HD
  have hdec : decide (L ≤ n) = false := decide_eq_false (by omega)
  rw [hdec]
  clear hdec
  go_loopw [8, 9] (fun v i wr => ∃ (j m : Nat) (zs : List ((Int × Int × List Int × ByteArray × Int × List Int) × Value × Value)), m ≤ L + n ∧ i = .int .i64 (m : Int) ∧ Hid (m = j * n) ∧ Hid (j ≤ m) ∧ Hid (zs.map Prod.fst = fragsL k qs nm p ds n j) ∧ Hid (1 ≤ j → (j - 1) * n < L) ∧ Hid (OwnK wr w1.heap.size v zs) ∧ Hid (RowsK wr w1.heap.size zs) ∧ Hid (ApartK zs) ∧ Hid (Below w1.heap.size w1 wr)) (fun _ i _ => L + n - (intOf i).toNat)
  case atStart => exact ⟨0, 0, [], by omega, rfl, Lib.hid (by simp), Lib.hid (Nat.le_refl _), Lib.hid rfl, Lib.hid (by omega), Lib.hid (OwnK.nil_ _ _), Lib.hid (RowsK.nil_ _ _), Lib.hid ApartK.nil_, Lib.hid (Below.refl _ _)⟩
  case round =>
    obtain ⟨j, m, zs, hmn, rfl, HM, HJ, HZ, HP, OK, RK, AK, HB⟩ := hrel
    obtain ⟨AV, cv, rfl, hcv, hzc, hAV⟩ := OK.out.form
    have zl : Hid (zs.length = j) := Lib.hid (by
      have h := congrArg List.length HZ.out
      rwa [List.length_map, fragsL_length] at h)
    by_cases hlt : m < L
    · have hlt' : (m : Int) < (L : Int) := by omega
      have hzb : (zs.length : Int) ≤ 200 := by have := zl.out; have := HJ.out; omega
      obtain ⟨e, he⟩ : ∃ e, min (m + n) L = e := ⟨_, rfl⟩
      have hch : (ds.drop m).take (e - m) = chunk n ds j := chunk_is HLN.out HM.out he hlt
      have HC := Lib.hid hch
      have CL : Hid ((chunk n ds j).length ≤ 1048576) := Lib.hid (by unfold chunk; simp; omega)
      have HW := Lib.hid (cut_nums hmn hl120 hn40 hzb)
      have HZL : Hid (zs.length + [()].length ≤ 1099511627776) := Lib.hid (by simp; omega)
      have HR := Lib.hid (round_next HM.out HJ.out hn1 hlt)
      have CV : Hid (∀ W, Below w1.heap.size w1 W → W.cell? ⟨w.heap.size, 0, none⟩ = some (Value.int .i64 k) ∧ W.cell? ⟨w.heap.size, 1, none⟩ = some (.slice A qs.length c) ∧ W.cell? ⟨w.heap.size, 2, none⟩ = some (.string nm) ∧ W.cell? ⟨w.heap.size, 3, none⟩ = some (.int .i64 p) ∧ Below w1.heap.size w1 W) := Lib.hid (fun W hb => ⟨(KK.out.kept hb).cell 0, (KK.out.kept hb).cell 1, (KK.out.kept hb).cell 2, (KK.out.kept hb).cell 3, hb⟩)
      have hAVk := Lib.hid hAV
      clear hch hAV
      have he2 : (L < m + n ∧ e = L) ∨ (m + n ≤ L ∧ e = m + n) := by omega
      clear he
      rcases he2 with ⟨hmin, rfl⟩ | ⟨hmin, hem⟩
      all_goals
        first
          | (have hmi : (e : Int) < (m : Int) + (n : Int) := by omega
             have hs0 : (0 : Int) ≤ (e : Int) := by omega
             have hs1 : (e : Int) ≤ (c9 : Int) := by omega
             have hs3 : ¬ c9 = m := by omega
             have hs4 : m ≤ e := by omega
             have J5 := Lib.hid (part_to (c := c9 - m) (S1.out.below HB.out S1.out.lt) HLN.out HC.out hs4 (by omega) (by omega))
             have TS : ∀ W : World, (Instr.slice 23 (.slice (some ⟨b9, o9, none⟩) e c9) (some (.int .i64 (m : Int))) (some (.int .i64 (e : Int))) none).run Tryd.prog W = .ok (.slice (some ⟨b9, o9 + m, none⟩) (e - m) (c9 - m)) W := by (intro W; go_simp))
          | (have hmi : ¬ (L : Int) < (e : Int) := by omega
             have hs0 : (0 : Int) ≤ (e : Int) := by omega
             have hs1 : (e : Int) ≤ (c9 : Int) := by omega
             have hs3 : ¬ c9 = m := by omega
             have hs4 : m ≤ e := by omega
             have HEM := Lib.hid hem
             have J5 := Lib.hid (part_to (c := c9 - m) (S1.out.below HB.out S1.out.lt) HLN.out HC.out hs4 (by omega) (by omega))
             have hme : (m : Int) + (n : Int) = (e : Int) := by omega
             have hwe : IntKind.i64.wrap (e : Int) = (e : Int) := IntWalk.i64_in _ (by omega)
             have hmN : ¬ L < e := by omega
             have hmv : (if L < e then (L : Int) else (e : Int)) = (e : Int) := if_neg hmN
             clear hem
             have TS : ∀ W : World, (Instr.slice 23 (.slice (some ⟨b9, o9, none⟩) L c9) (some (.int .i64 (m : Int))) (some (.int .i64 (e : Int))) none).run Tryd.prog W = .ok (.slice (some ⟨b9, o9 + m, none⟩) (e - m) (c9 - m)) W := by (intro W; go_simp))
        clear hmin
        obtain ⟨wq1, wz1⟩ := HW.out
        go_wp2_with fail
        go_region_held3 (fun W => W.cell? ⟨w.heap.size, 0, none⟩ = some (Value.int .i64 k) ∧ W.cell? ⟨w.heap.size, 1, none⟩ = some (.slice A qs.length c) ∧ W.cell? ⟨w.heap.size, 2, none⟩ = some (.string nm) ∧ W.cell? ⟨w.heap.size, 3, none⟩ = some (.int .i64 p) ∧ Below w1.heap.size w1 W)
          (first | with_reducible exact CV.out _ BW4.out | with_reducible exact CV.out _ (BW3.out.alloc BW3.out.size _) | with_reducible exact CV.out _ BW3.out | with_reducible exact CV.out _ BW2.out | with_reducible exact CV.out _ HB.out.drew)
          (first
            | (go_at_call 40; refine (cloneAddress_any k _ nm p qs _ (I1.out.below HB.out.drew) hq2).mono ?_; rintro e' w2 ⟨q2, rfl, o2, b2⟩; obtain ⟨A2, c2, rfl, _, _, _⟩ := o2.form; have BW2 : Hid (Below w1.heap.size w1 w2) := Lib.hid (HB.out.drew.trans (b2.mono HB.out.size)); have O2 : Hid (Own w2 w1.heap.size (.slice A2 qs.length c2) qs) := Lib.hid (o2.more HB.out.size); have OK2 := Lib.hid (OK.out.drew.below b2); have RK2 := Lib.hid (RK.out.drew.below b2); have AQ := Lib.hid (RK.out.drew.ahead o2); have J52 := Lib.hid (J5.out.drew.below b2); clear o2 b2)
            | (go_at_call 41; refine (Clone_any _ (chunk n ds j) _ ?_ CL.out).mono ?_; (exact J52.out); rintro e' w3 ⟨d3, rfl, o3, b3⟩; obtain ⟨A3, c3, rfl, _, _, _⟩ := o3.form; have BW3 : Hid (Below w1.heap.size w1 w3) := Lib.hid (BW2.out.trans (b3.mono BW2.out.size)); have O23 := Lib.hid (O2.out.below b3); have AQD := Lib.hid (O2.out.ahead o3); have ADD := Lib.hid (RK2.out.ahead o3); have O3 : Hid (Own w3 w1.heap.size (.slice A3 (chunk n ds j).length c3) (chunk n ds j)) := Lib.hid (o3.more BW2.out.size); have OK3 := Lib.hid (OK2.out.below b3); have RK3 := Lib.hid (RK2.out.below b3); clear o3 b3)
            | (refine step_pkts (by rfl) (.tmp 40) (.tmp 57) (by rfl) (by rfl) (by rfl) (base := w1.heap.size) (v := .slice AV zs.length cv) (u := .slice (some ⟨_, 0, none⟩) 1 1) (zs := zs) (ys := [(((zs.length : Int) + 1, k, qs, nm, p, chunk n ds j), .slice A2 qs.length c2, .slice A3 (chunk n ds j).length c3)]) (OK3.out.alloc _) (litK1 (base := 0) _ k _ qs nm p _ (chunk n ds j) rfl (Nat.zero_le _)).pkts (one_oneCell _ _ _ rfl rfl) ?_ ?_ ?_; (exact HZL.out); (exact (BW3.out.alloc BW3.out.size _).size); intro v4 w4 o4 b4 g4; have BW4 : Hid (Below w1.heap.size w1 w4) := Lib.hid ((BW3.out.alloc BW3.out.size _).trans b4); have RK4 : Hid (RowsK w4 w1.heap.size (zs ++ [(((zs.length : Int) + 1, k, qs, nm, p, chunk n ds j), .slice A2 qs.length c2, .slice A3 (chunk n ds j).length c3)])) := Lib.hid ((RowsK.snoc RK3.out (x := ((zs.length : Int) + 1, k, qs, nm, p, chunk n ds j)) O23.out O3.out).alloc _ |>.keep (OK3.out.alloc _) g4); have OK4 := Lib.hid o4; clear o4 b4 g4)
            | fail)
        all_goals
          rename_i hS
          clear hS
          go_wp2_with fail
          clear wq1 wz1
          go_roundw
          case rel => exact ⟨j + 1, m + n, _, by omega, (by first | go_num | (rw [← HEM.out])), HR.out.1, HR.out.2.1, Lib.hid (by rw [List.map_append, HZ.out, fragsL_snoc, zl.out]; rfl), HR.out.2.2, OK4, RK4, Lib.hid (AK.out.snoc AQ.out ADD.out AQD.out), BW4⟩
          case measure => (try have hem := HEM.out); simp [intOf]; omega
    · have hge : ¬ (m : Int) < (L : Int) := by omega
      obtain ⟨i, hji⟩ := last_i HM.out hlt hL
      subst hji
      have hzi := zl.out
      obtain ⟨b, rfl, hb1, hb2, hsb⟩ := hAV.resolve_left (fun h => by rw [h] at hzi; simp at hzi)
      have HNX : Hid (cutN n ds.length = i + 1) := Lib.hid (by rw [HLN.out]; exact cutN_is hn1 (by have := HM.out; omega) (by omega) (HP.out (by omega)))
      obtain ⟨z, hz⟩ : ∃ z, zs[i]? = some z := ⟨zs[i]'(by omega), List.getElem?_eq_getElem _⟩
      have hzf : z.1 = ((i : Int) + 1, k, qs, nm, p, chunk n ds i) := last_is HZ.out hz
      have c0 := hsb.cell (kv_get zs i 0 z hz (by omega))
      rw [Nat.zero_add, Nat.add_zero] at c0
      have c0' : wr.cell? ⟨b, i * 6, none⟩ = some (.int .i64 ((i : Int) + 1)) := by
        rw [c0]
        simp [hzf]
      have fz := hsb.frozen (i * 6)
      have FIN := Lib.hid (OK.out.mark hz ((i : Int) + 1 + 128))
      have HZ2 : Hid ((zs.set i (((i : Int) + 1 + 128, z.1.2), z.2)).map Prod.fst = cutL k qs nm p ds n) := Lib.hid (by
        rw [List.map_set, HZ.out, hzf]
        exact pieces_mark HNX.out HNL.out)
      have AK2 := Lib.hid (AK.out.set_ hz ((i : Int) + 1 + 128, z.1.2))
      have RK2 := Lib.hid (RK.out.mark hsb hz ((i : Int) + 1 + 128))
      have BB := Lib.hid ((HB.out.setCell (p := ⟨b, i * 6, none⟩) hb1 (.int .i64 ((i : Int) + 1 + 128))))
      have hib : (i : Int) ≤ 200 := by have := HJ.out; omega
      rw [hzi] at hzc ⊢
      rw [hzi] at FIN
      clear hAV hsb hz hzf c0 HZ HM HJ HP HNX HNL zl hzi OK RK
      go_wp2_with fail
      go_ret2
      exact ⟨_, _, by rw [E.out]; rfl, by rw [EL.out]; exact HZ2.out, FIN.out.more_ B1.out.size, RK2.out.more B1.out.size, AK2.out, B1.out.trans (BB.out.mono B1.out.size)⟩
end Go.Proofs.YtdmkacbjdojkpaaDoor
