/-
  PacketJoin of the reference. Conditions: the packets, their quads and data are read; their names are shorter than 2^32 - 15 bytes; there are at most 2^20 of them.
-/
import Derived.Test.YtpcflkdeoafpeaaDoorSameT
import Derived.Test.YtpcflkdeoafpeaaDoorJoin
import Derived.Test.YtpcflkdeoafpeaaDoorJoinL
import Derived.Test.YtpcflkdeoafpeaaDoorCutLaw
import Derived.Test.YtpcflkdeoafpeaaDoorAppend
import Derived.Deep.LoopGhost
import Derived.Lib.QuietBelow
import Derived.BigQuiet
namespace Go.Proofs.YtpcflkdeoafpeaaDoor
open Go.RowKit Go.Sort


set_option maxRecDepth 100000 in
set_option maxHeartbeats 4000000 in
theorem spec_PacketJoin_any (v : Value) (zs : List ((Int × Int × List Int × ByteArray × Int × List Int) × Value × Value)) (w : World) (hv : Pkts w 0 v zs) (hr : ReadK w zs) (hnm : ∀ z ∈ zs, z.1.2.2.2.1.size < 4294967281) (hlen : zs.length ≤ 1048576) : Calls Tryd.prog 7 #[v] w fun e w' => Gave w (jnL (zs.map Prod.fst)) (jnOk (zs.map Prod.fst)) e w' := by
  have HR := Lib.hid hr
  have HNM := Lib.hid hnm
  obtain ⟨A, c, rfl, hc, hm, hA⟩ := hv.open_
  have HA := Lib.hid hA
  obtain ⟨es, hes⟩ : ∃ es, zs.map Prod.fst = es := ⟨_, rfl⟩
  have HES := Lib.hid hes
  obtain ⟨n, hn⟩ : ∃ n, zs.length = n := ⟨_, rfl⟩
  have HN := Lib.hid hn
  have HEN : Hid (es.length = n) := Lib.hid (by rw [← hes, List.length_map, hn])
  rw [hes]
  rw [hn] at hc hlen ⊢
  clear hv hr hnm hA hes hn
  obtain ⟨V0, hV0⟩ : ∃ V0, w.alloc (.cells #[] 3) = V0 := ⟨_, rfl⟩
  have B0 : Hid (Below w.heap.size w V0) := Lib.hid (by rw [← hV0]; exact (Below.refl _ _).alloc (Nat.le_refl _) _)
  have O0 : Hid (Own V0 w.heap.size (.slice (some ⟨w.heap.size, 0, none⟩) 0 0) []) := Lib.hid (by rw [← hV0]; exact Own.lit_0 rfl (Nat.le_refl _))
  go_enter Tryd.func7, Tryd.ntmps7
  go_wp2_with fail
  clear hV0
  go_loopg [4, 5] n (fun g v i wr => ∃ j : Nat, g = n - j ∧ j ≤ n ∧ i = .int .i64 (j : Int) ∧ Hid (jnTo es j = true) ∧ Hid (Own wr w.heap.size v (jnD es j)) ∧ Hid (Below w.heap.size w wr))
  case atStart => exact ⟨0, by omega, Nat.zero_le _, rfl, Lib.hid rfl, O0, B0⟩
  case round =>
    obtain ⟨j, rfl, hj, rfl, HJ, OD, HB⟩ := hrel
    obtain ⟨AV, cv, rfl, _, _, _⟩ := OD.out.form
    by_cases hlt : j < n
    · have hlt' : (j : Int) < (n : Int) := by omega
      have hji0 : (0 : Int) ≤ (j : Int) := by omega
      have hn0 : (0 : Int) < (n : Int) := by omega
      obtain ⟨b, o, rfl, _, hb2, hs⟩ := HA.out.resolve_left (fun h => by have := HN.out; rw [h] at this; simp at this; omega)
      obtain ⟨z, hz⟩ : ∃ z, zs[j]? = some z := ⟨zs[j]'(by rw [HN.out]; exact hlt), List.getElem?_eq_getElem _⟩
      obtain ⟨z0, hz0⟩ : ∃ z, zs[0]? = some z := ⟨zs[0]'(by rw [HN.out]; omega), List.getElem?_eq_getElem _⟩
      have hej : es[j]? = some z.1 := by rw [← HES.out, List.getElem?_map, hz]; rfl
      have he0 : es[0]? = some z0.1 := by rw [← HES.out, List.getElem?_map, hz0]; rfl
      obtain ⟨hq, hd⟩ := HR.out z (List.mem_of_getElem? hz)
      obtain ⟨hq0, _⟩ := HR.out z0 (List.mem_of_getElem? hz0)
      have hnm : z.1.2.2.2.1.size < 4294967281 := HNM.out z (List.mem_of_getElem? hz)
      have hnm0 : z0.1.2.2.2.1.size < 4294967281 := HNM.out z0 (List.mem_of_getElem? hz0)
      have C := pk_cells (hs.below HB.out hb2) hz
      have C0 := pk_cells (hs.below HB.out hb2) hz0
      have HC := Lib.hid (pk_cells hs hz)
      have HC0 := Lib.hid (pk_cells hs hz0)
      obtain ⟨⟨f, k, qs, nm, p, ds⟩, q6, d6⟩ := z
      obtain ⟨⟨f0, k0, qs0, nm0, p0, ds0⟩, q8, d8⟩ := z0
      dsimp only at hq hd hq0 hnm hnm0 C C0 HC HC0 hej he0
      obtain ⟨A6, c6, rfl, _, _, _⟩ := hq.open_
      obtain ⟨A7, c7, rfl, _, _, _⟩ := hd.open_
      obtain ⟨A8, c8, rfl, _, _, _⟩ := hq0.open_
      have gj := getD_of hej
      have g0 := getD_of he0
      have HEJ := Lib.hid hej
      have HGJ := Lib.hid gj
      have HG0 := Lib.hid g0
      have HQ := Lib.hid hq
      have HD := Lib.hid hd
      have HQ0 := Lib.hid hq0
      have HBB := Lib.hid hb2
      simp only [Nat.zero_mul, Nat.add_zero] at C0 HC0
      obtain ⟨y0, y1, y2, y3, y4, y5⟩ := C
      obtain ⟨_, x1, x2, x3, x4, _⟩ := C0
      clear hs hz hz0 hej he0 hq hd hq0 gj g0
      have IQ := Lib.hid (HQ.out.below HB.out)
      have ID := Lib.hid (HD.out.below HB.out)
      have IQ0 := Lib.hid (HQ0.out.below HB.out)
      have ky0 := cell_regrown y0
      have ky1 := cell_regrown y1
      have ky2 := cell_regrown y2
      have ky3 := cell_regrown y3
      have ky4 := cell_regrown y4
      have ky5 := cell_regrown y5
      have kx1 := cell_regrown x1
      have kx2 := cell_regrown x2
      have kx3 := cell_regrown x3
      have kx4 := cell_regrown x4
      by_cases hn1 : n = 1
      · by_cases hf0 : f = 0
        · have h1 : n = 1 ∧ f = 0 := ⟨hn1, hf0⟩
          clear hf0 hn1
          obtain ⟨hn1, hf0⟩ := h1
          subst hf0
          have hj1 : ¬ (j : Int) + 1 < (n : Int) := by omega
          have hn1i : ¬ (1 : Int) < (n : Int) := by omega
          have HN1 := Lib.hid hn1
          clear hn1
          have HFR : Hid (fragW n j (0 : Int) = decide ((0 : Int) = (0 : Int))) := Lib.hid (by simp [fragW, HN1.out])
          (try clear hl)
          (try clear h1)
          obtain ⟨PK, hPK⟩ : ∃ PK, pkOk (0 : Int) k qs nm p ds = PK := ⟨_, rfl⟩
          have HPK := Lib.hid hPK
          have Q1 : Hid (∀ d os, Calls Tryd.prog 23 #[.agg #[.int .i64 (0 : Int), .int .i64 k, .slice A6 qs.length c6, .string nm, .int .i64 p, .slice A7 ds.length c7]] (grow (redrawn wr d) os) fun e w'' => e = .returned (.bool PK) ∧ ∃ p : Regrown, w'' = grow (redrawn wr p.d) p.os) := Lib.hid fun d os => Calls.regrown_of (by rw [← hPK]; exact l13Ok_any (0 : Int) k _ nm p qs _ ds _ (IQ.out.below (below_regrown wr d os)) (ID.out.below (below_regrown wr d os)) hnm)
          clear hPK
          cases PK
          · have hfail : jnAt es j = false := by unfold jnAt pkE; rw [HGJ.out]; dsimp only; rw [HPK.out]; rfl
            have HF := Lib.hid (jnOk_not (by rw [HEN.out]; exact hlt) hfail)
            clear hfail
            go_wp2_with fail
            refine wp_region_quiet_below (by kernel_rfl) (by kernel_rfl) ?_
            repeat (go_big_quiet_step (first | with_reducible exact Q1.out _ _))
            refine wpQuiet_nil ?_
            intro _ hw'
            obtain ⟨⟨dq, osq⟩, hw''⟩ := hw'
            subst hw''
            obtain ⟨W2, hW2, BW2⟩ := quiet_world (w := wr) (d := dq) (os := osq)
            rw [hW2]
            clear hW2 dq osq
            go_wp2_with fail
            go_ret2
            exact ⟨_, by rw [HF.out]; rfl, by rw [jnL_not HF.out]; exact Own.lit_0 rfl (HB.out.trans (BW2.mono HB.out.size)).size, (HB.out.trans (BW2.mono HB.out.size)).alloc (HB.out.trans (BW2.mono HB.out.size)).size _⟩
          have hpe : pkE (es.getD j noPk) = true := by rw [HGJ.out]; exact HPK.out
          have hp0 := first_ok HJ.out hpe
          have HA1 : Hid (adOk k qs nm p = true) := Lib.hid (by have h := (pkE_parts hpe).1; rw [HGJ.out] at h; exact h)
          have HA0 : Hid (adOk k0 qs0 nm0 p0 = true) := Lib.hid (by have h := (pkE_parts hp0).1; rw [HG0.out] at h; exact h)
          have HDL : Hid (ds.length ≤ 40) := Lib.hid (by have h := (pkE_parts hpe).2; rw [HGJ.out] at h; exact h)
          obtain ⟨SM, hSM⟩ : ∃ SM, decide (adT k qs nm p = adT k0 qs0 nm0 p0) = SM := ⟨_, rfl⟩
          have HSM := Lib.hid hSM
          have Q2 : Hid (∀ d os, Calls Tryd.prog 24 #[.agg #[.int .i64 k, .slice A6 qs.length c6, .string nm, .int .i64 p], .agg #[.int .i64 k0, .slice A8 qs0.length c8, .string nm0, .int .i64 p0]] (grow (redrawn wr d) os) fun e w'' => e = .returned (.bool SM) ∧ ∃ p : Regrown, w'' = grow (redrawn wr p.d) p.os) := Lib.hid fun d os => Calls.regrown_of (by rw [← hSM]; exact l13Same_any k _ nm p qs k0 _ nm0 p0 qs0 _ (IQ.out.below (below_regrown wr d os)) (IQ0.out.below (below_regrown wr d os)) HA1.out HA0.out hnm hnm0)
          have HPE := Lib.hid hpe
          clear hpe hp0 hSM
          cases SM
          · have hfail : jnAt es j = false := by unfold jnAt adE; rw [HGJ.out, HG0.out]; dsimp only; rw [HSM.out, Bool.and_false]; rfl
            have HF := Lib.hid (jnOk_not (by rw [HEN.out]; exact hlt) hfail)
            clear hfail
            go_wp2_with fail
            refine wp_region_quiet_below (by kernel_rfl) (by kernel_rfl) ?_
            repeat (go_big_quiet_step (first | with_reducible exact Q1.out _ _ | with_reducible exact Q2.out _ _))
            refine wpQuiet_nil ?_
            intro _ hw'
            obtain ⟨⟨dq, osq⟩, hw''⟩ := hw'
            subst hw''
            obtain ⟨W2, hW2, BW2⟩ := quiet_world (w := wr) (d := dq) (os := osq)
            rw [hW2]
            clear hW2 dq osq
            go_wp2_with fail
            go_ret2
            exact ⟨_, by rw [HF.out]; rfl, by rw [jnL_not HF.out]; exact Own.lit_0 rfl (HB.out.trans (BW2.mono HB.out.size)).size, (HB.out.trans (BW2.mono HB.out.size)).alloc (HB.out.trans (BW2.mono HB.out.size)).size _⟩
          have HLEN : Hid ((jnD es j).length + ds.length ≤ 1099511627776) := Lib.hid (by have h := jnD_le (by rw [HEN.out]; exact hj) HJ.out; have := HDL.out; omega)
          have HAT : Hid (jnAt es j = fragW n j (0 : Int)) := Lib.hid (by
            have h1 := HPE.out
            have h2 := HSM.out
            unfold jnAt
            rw [h1, HGJ.out, HG0.out, HEN.out]
            unfold adE
            dsimp only
            rw [h2]
            rfl)
          have HDN : Hid (jnD es (j + 1) = jnD es j ++ ds) := Lib.hid (jnD_succ HEJ.out)
          by_cases hf : (0 : Int) = (0 : Int)
          · have HT2 : Hid (jnTo es (j + 1) = true) := Lib.hid (by rw [jnTo_succ, HJ.out, HAT.out, HFR.out, decide_eq_true hf]; rfl)
            (try subst hf)
            go_wp2_with fail
            refine wp_region_quiet_below (by kernel_rfl) (by kernel_rfl) ?_
            repeat (go_big_quiet_step (first | with_reducible exact Q1.out _ _ | with_reducible exact Q2.out _ _))
            refine wpQuiet_nil ?_
            intro _ hw'
            obtain ⟨⟨dq, osq⟩, hw''⟩ := hw'
            subst hw''
            obtain ⟨W2, hW2, BW2⟩ := quiet_world (w := wr) (d := dq) (os := osq)
            rw [hW2]
            clear hW2 dq osq
            have B2 := Lib.hid (HB.out.trans (BW2.mono HB.out.size))
            have O2 := Lib.hid (OD.out.below BW2)
            have D2 := Lib.hid (ID.out.below BW2)
            have t5 : W2.cell? ⟨b, o + j * 6 + 5, none⟩ = some (.slice A7 ds.length c7) := (B2.out.cell (p := ⟨b, o + j * 6 + 5, none⟩) HBB.out).trans HC.out.2.2.2.2.2
            clear BW2
            go_wp2_with (at_builtin; refine wp_ints rfl (.tmp 63) (.tmp 68) rfl rfl rfl O2.out D2.out HLEN.out B2.out.size ?_; intro v3 w3 o3 b3 g3 k3; have O3 := Lib.hid o3; have B3 := Lib.hid (B2.out.trans b3); clear o3 b3 g3 k3)
            go_roundg (n - (j + 1))
            case measure => omega
            case rel => exact ⟨j + 1, rfl, by omega, by first | rfl | simp, HT2, Lib.hid (by rw [HDN.out]; exact O3.out), B3⟩
          · exact absurd rfl hf
        · have hj1 : ¬ (j : Int) + 1 < (n : Int) := by omega
          have hn1i : ¬ (1 : Int) < (n : Int) := by omega
          have HN1 := Lib.hid hn1
          clear hn1
          have HH0 := Lib.hid hf0
          have HFR : Hid (fragW n j f = decide (f = ((j : Int) + 1 + 128))) := Lib.hid (by simp [fragW, HN1.out, HH0.out, wantE, show j + 1 = n by have := HN1.out; omega])
          (try clear hl)
          (try clear h1)
          obtain ⟨PK, hPK⟩ : ∃ PK, pkOk f k qs nm p ds = PK := ⟨_, rfl⟩
          have HPK := Lib.hid hPK
          have Q1 : Hid (∀ d os, Calls Tryd.prog 23 #[.agg #[.int .i64 f, .int .i64 k, .slice A6 qs.length c6, .string nm, .int .i64 p, .slice A7 ds.length c7]] (grow (redrawn wr d) os) fun e w'' => e = .returned (.bool PK) ∧ ∃ p : Regrown, w'' = grow (redrawn wr p.d) p.os) := Lib.hid fun d os => Calls.regrown_of (by rw [← hPK]; exact l13Ok_any f k _ nm p qs _ ds _ (IQ.out.below (below_regrown wr d os)) (ID.out.below (below_regrown wr d os)) hnm)
          clear hPK
          cases PK
          · have hfail : jnAt es j = false := by unfold jnAt pkE; rw [HGJ.out]; dsimp only; rw [HPK.out]; rfl
            have HF := Lib.hid (jnOk_not (by rw [HEN.out]; exact hlt) hfail)
            clear hfail
            go_wp2_with fail
            refine wp_region_quiet_below (by kernel_rfl) (by kernel_rfl) ?_
            repeat (go_big_quiet_step (first | with_reducible exact Q1.out _ _))
            refine wpQuiet_nil ?_
            intro _ hw'
            obtain ⟨⟨dq, osq⟩, hw''⟩ := hw'
            subst hw''
            obtain ⟨W2, hW2, BW2⟩ := quiet_world (w := wr) (d := dq) (os := osq)
            rw [hW2]
            clear hW2 dq osq
            go_wp2_with fail
            go_ret2
            exact ⟨_, by rw [HF.out]; rfl, by rw [jnL_not HF.out]; exact Own.lit_0 rfl (HB.out.trans (BW2.mono HB.out.size)).size, (HB.out.trans (BW2.mono HB.out.size)).alloc (HB.out.trans (BW2.mono HB.out.size)).size _⟩
          have hpe : pkE (es.getD j noPk) = true := by rw [HGJ.out]; exact HPK.out
          have hp0 := first_ok HJ.out hpe
          have HA1 : Hid (adOk k qs nm p = true) := Lib.hid (by have h := (pkE_parts hpe).1; rw [HGJ.out] at h; exact h)
          have HA0 : Hid (adOk k0 qs0 nm0 p0 = true) := Lib.hid (by have h := (pkE_parts hp0).1; rw [HG0.out] at h; exact h)
          have HDL : Hid (ds.length ≤ 40) := Lib.hid (by have h := (pkE_parts hpe).2; rw [HGJ.out] at h; exact h)
          obtain ⟨SM, hSM⟩ : ∃ SM, decide (adT k qs nm p = adT k0 qs0 nm0 p0) = SM := ⟨_, rfl⟩
          have HSM := Lib.hid hSM
          have Q2 : Hid (∀ d os, Calls Tryd.prog 24 #[.agg #[.int .i64 k, .slice A6 qs.length c6, .string nm, .int .i64 p], .agg #[.int .i64 k0, .slice A8 qs0.length c8, .string nm0, .int .i64 p0]] (grow (redrawn wr d) os) fun e w'' => e = .returned (.bool SM) ∧ ∃ p : Regrown, w'' = grow (redrawn wr p.d) p.os) := Lib.hid fun d os => Calls.regrown_of (by rw [← hSM]; exact l13Same_any k _ nm p qs k0 _ nm0 p0 qs0 _ (IQ.out.below (below_regrown wr d os)) (IQ0.out.below (below_regrown wr d os)) HA1.out HA0.out hnm hnm0)
          have HPE := Lib.hid hpe
          clear hpe hp0 hSM
          cases SM
          · have hfail : jnAt es j = false := by unfold jnAt adE; rw [HGJ.out, HG0.out]; dsimp only; rw [HSM.out, Bool.and_false]; rfl
            have HF := Lib.hid (jnOk_not (by rw [HEN.out]; exact hlt) hfail)
            clear hfail
            go_wp2_with fail
            refine wp_region_quiet_below (by kernel_rfl) (by kernel_rfl) ?_
            repeat (go_big_quiet_step (first | with_reducible exact Q1.out _ _ | with_reducible exact Q2.out _ _))
            refine wpQuiet_nil ?_
            intro _ hw'
            obtain ⟨⟨dq, osq⟩, hw''⟩ := hw'
            subst hw''
            obtain ⟨W2, hW2, BW2⟩ := quiet_world (w := wr) (d := dq) (os := osq)
            rw [hW2]
            clear hW2 dq osq
            go_wp2_with fail
            go_ret2
            exact ⟨_, by rw [HF.out]; rfl, by rw [jnL_not HF.out]; exact Own.lit_0 rfl (HB.out.trans (BW2.mono HB.out.size)).size, (HB.out.trans (BW2.mono HB.out.size)).alloc (HB.out.trans (BW2.mono HB.out.size)).size _⟩
          have HLEN : Hid ((jnD es j).length + ds.length ≤ 1099511627776) := Lib.hid (by have h := jnD_le (by rw [HEN.out]; exact hj) HJ.out; have := HDL.out; omega)
          have HAT : Hid (jnAt es j = fragW n j f) := Lib.hid (by
            have h1 := HPE.out
            have h2 := HSM.out
            unfold jnAt
            rw [h1, HGJ.out, HG0.out, HEN.out]
            unfold adE
            dsimp only
            rw [h2]
            rfl)
          have HDN : Hid (jnD es (j + 1) = jnD es j ++ ds) := Lib.hid (jnD_succ HEJ.out)
          by_cases hf : f = ((j : Int) + 1 + 128)
          · have HT2 : Hid (jnTo es (j + 1) = true) := Lib.hid (by rw [jnTo_succ, HJ.out, HAT.out, HFR.out, decide_eq_true hf]; rfl)
            (try subst hf)
            go_wp2_with fail
            refine wp_region_quiet_below (by kernel_rfl) (by kernel_rfl) ?_
            repeat (go_big_quiet_step (first | with_reducible exact Q1.out _ _ | with_reducible exact Q2.out _ _))
            refine wpQuiet_nil ?_
            intro _ hw'
            obtain ⟨⟨dq, osq⟩, hw''⟩ := hw'
            subst hw''
            obtain ⟨W2, hW2, BW2⟩ := quiet_world (w := wr) (d := dq) (os := osq)
            rw [hW2]
            clear hW2 dq osq
            have B2 := Lib.hid (HB.out.trans (BW2.mono HB.out.size))
            have O2 := Lib.hid (OD.out.below BW2)
            have D2 := Lib.hid (ID.out.below BW2)
            have t5 : W2.cell? ⟨b, o + j * 6 + 5, none⟩ = some (.slice A7 ds.length c7) := (B2.out.cell (p := ⟨b, o + j * 6 + 5, none⟩) HBB.out).trans HC.out.2.2.2.2.2
            clear BW2
            go_wp2_with (at_builtin; refine wp_ints rfl (.tmp 63) (.tmp 68) rfl rfl rfl O2.out D2.out HLEN.out B2.out.size ?_; intro v3 w3 o3 b3 g3 k3; have O3 := Lib.hid o3; have B3 := Lib.hid (B2.out.trans b3); clear o3 b3 g3 k3)
            go_roundg (n - (j + 1))
            case measure => omega
            case rel => exact ⟨j + 1, rfl, by omega, by first | rfl | simp, HT2, Lib.hid (by rw [HDN.out]; exact O3.out), B3⟩
          · have HF := Lib.hid (jnOk_not (by rw [HEN.out]; exact hlt) (HAT.out.trans (HFR.out.trans (decide_eq_false hf))))
            go_wp2_with fail
            refine wp_region_quiet_below (by kernel_rfl) (by kernel_rfl) ?_
            repeat (go_big_quiet_step (first | with_reducible exact Q1.out _ _ | with_reducible exact Q2.out _ _))
            refine wpQuiet_nil ?_
            intro _ hw'
            obtain ⟨⟨dq, osq⟩, hw''⟩ := hw'
            subst hw''
            obtain ⟨W2, hW2, BW2⟩ := quiet_world (w := wr) (d := dq) (os := osq)
            rw [hW2]
            clear hW2 dq osq
            go_wp2_with fail
            go_ret2
            exact ⟨_, by rw [HF.out]; rfl, by rw [jnL_not HF.out]; exact Own.lit_0 rfl (HB.out.trans (BW2.mono HB.out.size)).size, (HB.out.trans (BW2.mono HB.out.size)).alloc (HB.out.trans (BW2.mono HB.out.size)).size _⟩
      · by_cases hl : j + 1 = n
        · have hj1 : ¬ (j : Int) + 1 < (n : Int) := by omega
          have hn1i : (1 : Int) < (n : Int) := by omega
          have HFR : Hid (fragW n j f = decide (f = ((j : Int) + 1 + 128))) := Lib.hid (by simp [fragW, hn1, wantE, hl])
          (try clear hl)
          (try clear h1)
          obtain ⟨PK, hPK⟩ : ∃ PK, pkOk f k qs nm p ds = PK := ⟨_, rfl⟩
          have HPK := Lib.hid hPK
          have Q1 : Hid (∀ d os, Calls Tryd.prog 23 #[.agg #[.int .i64 f, .int .i64 k, .slice A6 qs.length c6, .string nm, .int .i64 p, .slice A7 ds.length c7]] (grow (redrawn wr d) os) fun e w'' => e = .returned (.bool PK) ∧ ∃ p : Regrown, w'' = grow (redrawn wr p.d) p.os) := Lib.hid fun d os => Calls.regrown_of (by rw [← hPK]; exact l13Ok_any f k _ nm p qs _ ds _ (IQ.out.below (below_regrown wr d os)) (ID.out.below (below_regrown wr d os)) hnm)
          clear hPK
          cases PK
          · have hfail : jnAt es j = false := by unfold jnAt pkE; rw [HGJ.out]; dsimp only; rw [HPK.out]; rfl
            have HF := Lib.hid (jnOk_not (by rw [HEN.out]; exact hlt) hfail)
            clear hfail
            go_wp2_with fail
            refine wp_region_quiet_below (by kernel_rfl) (by kernel_rfl) ?_
            repeat (go_big_quiet_step (first | with_reducible exact Q1.out _ _))
            refine wpQuiet_nil ?_
            intro _ hw'
            obtain ⟨⟨dq, osq⟩, hw''⟩ := hw'
            subst hw''
            obtain ⟨W2, hW2, BW2⟩ := quiet_world (w := wr) (d := dq) (os := osq)
            rw [hW2]
            clear hW2 dq osq
            go_wp2_with fail
            go_ret2
            exact ⟨_, by rw [HF.out]; rfl, by rw [jnL_not HF.out]; exact Own.lit_0 rfl (HB.out.trans (BW2.mono HB.out.size)).size, (HB.out.trans (BW2.mono HB.out.size)).alloc (HB.out.trans (BW2.mono HB.out.size)).size _⟩
          have hpe : pkE (es.getD j noPk) = true := by rw [HGJ.out]; exact HPK.out
          have hp0 := first_ok HJ.out hpe
          have HA1 : Hid (adOk k qs nm p = true) := Lib.hid (by have h := (pkE_parts hpe).1; rw [HGJ.out] at h; exact h)
          have HA0 : Hid (adOk k0 qs0 nm0 p0 = true) := Lib.hid (by have h := (pkE_parts hp0).1; rw [HG0.out] at h; exact h)
          have HDL : Hid (ds.length ≤ 40) := Lib.hid (by have h := (pkE_parts hpe).2; rw [HGJ.out] at h; exact h)
          obtain ⟨SM, hSM⟩ : ∃ SM, decide (adT k qs nm p = adT k0 qs0 nm0 p0) = SM := ⟨_, rfl⟩
          have HSM := Lib.hid hSM
          have Q2 : Hid (∀ d os, Calls Tryd.prog 24 #[.agg #[.int .i64 k, .slice A6 qs.length c6, .string nm, .int .i64 p], .agg #[.int .i64 k0, .slice A8 qs0.length c8, .string nm0, .int .i64 p0]] (grow (redrawn wr d) os) fun e w'' => e = .returned (.bool SM) ∧ ∃ p : Regrown, w'' = grow (redrawn wr p.d) p.os) := Lib.hid fun d os => Calls.regrown_of (by rw [← hSM]; exact l13Same_any k _ nm p qs k0 _ nm0 p0 qs0 _ (IQ.out.below (below_regrown wr d os)) (IQ0.out.below (below_regrown wr d os)) HA1.out HA0.out hnm hnm0)
          have HPE := Lib.hid hpe
          clear hpe hp0 hSM
          cases SM
          · have hfail : jnAt es j = false := by unfold jnAt adE; rw [HGJ.out, HG0.out]; dsimp only; rw [HSM.out, Bool.and_false]; rfl
            have HF := Lib.hid (jnOk_not (by rw [HEN.out]; exact hlt) hfail)
            clear hfail
            go_wp2_with fail
            refine wp_region_quiet_below (by kernel_rfl) (by kernel_rfl) ?_
            repeat (go_big_quiet_step (first | with_reducible exact Q1.out _ _ | with_reducible exact Q2.out _ _))
            refine wpQuiet_nil ?_
            intro _ hw'
            obtain ⟨⟨dq, osq⟩, hw''⟩ := hw'
            subst hw''
            obtain ⟨W2, hW2, BW2⟩ := quiet_world (w := wr) (d := dq) (os := osq)
            rw [hW2]
            clear hW2 dq osq
            go_wp2_with fail
            go_ret2
            exact ⟨_, by rw [HF.out]; rfl, by rw [jnL_not HF.out]; exact Own.lit_0 rfl (HB.out.trans (BW2.mono HB.out.size)).size, (HB.out.trans (BW2.mono HB.out.size)).alloc (HB.out.trans (BW2.mono HB.out.size)).size _⟩
          have HLEN : Hid ((jnD es j).length + ds.length ≤ 1099511627776) := Lib.hid (by have h := jnD_le (by rw [HEN.out]; exact hj) HJ.out; have := HDL.out; omega)
          have HAT : Hid (jnAt es j = fragW n j f) := Lib.hid (by
            have h1 := HPE.out
            have h2 := HSM.out
            unfold jnAt
            rw [h1, HGJ.out, HG0.out, HEN.out]
            unfold adE
            dsimp only
            rw [h2]
            rfl)
          have HDN : Hid (jnD es (j + 1) = jnD es j ++ ds) := Lib.hid (jnD_succ HEJ.out)
          by_cases hf : f = ((j : Int) + 1 + 128)
          · have HT2 : Hid (jnTo es (j + 1) = true) := Lib.hid (by rw [jnTo_succ, HJ.out, HAT.out, HFR.out, decide_eq_true hf]; rfl)
            (try subst hf)
            go_wp2_with fail
            refine wp_region_quiet_below (by kernel_rfl) (by kernel_rfl) ?_
            repeat (go_big_quiet_step (first | with_reducible exact Q1.out _ _ | with_reducible exact Q2.out _ _))
            refine wpQuiet_nil ?_
            intro _ hw'
            obtain ⟨⟨dq, osq⟩, hw''⟩ := hw'
            subst hw''
            obtain ⟨W2, hW2, BW2⟩ := quiet_world (w := wr) (d := dq) (os := osq)
            rw [hW2]
            clear hW2 dq osq
            have B2 := Lib.hid (HB.out.trans (BW2.mono HB.out.size))
            have O2 := Lib.hid (OD.out.below BW2)
            have D2 := Lib.hid (ID.out.below BW2)
            have t5 : W2.cell? ⟨b, o + j * 6 + 5, none⟩ = some (.slice A7 ds.length c7) := (B2.out.cell (p := ⟨b, o + j * 6 + 5, none⟩) HBB.out).trans HC.out.2.2.2.2.2
            clear BW2
            go_wp2_with (at_builtin; refine wp_ints rfl (.tmp 63) (.tmp 68) rfl rfl rfl O2.out D2.out HLEN.out B2.out.size ?_; intro v3 w3 o3 b3 g3 k3; have O3 := Lib.hid o3; have B3 := Lib.hid (B2.out.trans b3); clear o3 b3 g3 k3)
            go_roundg (n - (j + 1))
            case measure => omega
            case rel => exact ⟨j + 1, rfl, by omega, by first | rfl | simp, HT2, Lib.hid (by rw [HDN.out]; exact O3.out), B3⟩
          · have HF := Lib.hid (jnOk_not (by rw [HEN.out]; exact hlt) (HAT.out.trans (HFR.out.trans (decide_eq_false hf))))
            go_wp2_with fail
            refine wp_region_quiet_below (by kernel_rfl) (by kernel_rfl) ?_
            repeat (go_big_quiet_step (first | with_reducible exact Q1.out _ _ | with_reducible exact Q2.out _ _))
            refine wpQuiet_nil ?_
            intro _ hw'
            obtain ⟨⟨dq, osq⟩, hw''⟩ := hw'
            subst hw''
            obtain ⟨W2, hW2, BW2⟩ := quiet_world (w := wr) (d := dq) (os := osq)
            rw [hW2]
            clear hW2 dq osq
            go_wp2_with fail
            go_ret2
            exact ⟨_, by rw [HF.out]; rfl, by rw [jnL_not HF.out]; exact Own.lit_0 rfl (HB.out.trans (BW2.mono HB.out.size)).size, (HB.out.trans (BW2.mono HB.out.size)).alloc (HB.out.trans (BW2.mono HB.out.size)).size _⟩
        · have hj1 : (j : Int) + 1 < (n : Int) := by omega
          have hn1i : (1 : Int) < (n : Int) := by omega
          have HFR : Hid (fragW n j f = decide (f = ((j : Int) + 1))) := Lib.hid (by simp [fragW, hn1, wantE, hl])
          (try clear hl)
          (try clear h1)
          obtain ⟨PK, hPK⟩ : ∃ PK, pkOk f k qs nm p ds = PK := ⟨_, rfl⟩
          have HPK := Lib.hid hPK
          have Q1 : Hid (∀ d os, Calls Tryd.prog 23 #[.agg #[.int .i64 f, .int .i64 k, .slice A6 qs.length c6, .string nm, .int .i64 p, .slice A7 ds.length c7]] (grow (redrawn wr d) os) fun e w'' => e = .returned (.bool PK) ∧ ∃ p : Regrown, w'' = grow (redrawn wr p.d) p.os) := Lib.hid fun d os => Calls.regrown_of (by rw [← hPK]; exact l13Ok_any f k _ nm p qs _ ds _ (IQ.out.below (below_regrown wr d os)) (ID.out.below (below_regrown wr d os)) hnm)
          clear hPK
          cases PK
          · have hfail : jnAt es j = false := by unfold jnAt pkE; rw [HGJ.out]; dsimp only; rw [HPK.out]; rfl
            have HF := Lib.hid (jnOk_not (by rw [HEN.out]; exact hlt) hfail)
            clear hfail
            go_wp2_with fail
            refine wp_region_quiet_below (by kernel_rfl) (by kernel_rfl) ?_
            repeat (go_big_quiet_step (first | with_reducible exact Q1.out _ _))
            refine wpQuiet_nil ?_
            intro _ hw'
            obtain ⟨⟨dq, osq⟩, hw''⟩ := hw'
            subst hw''
            obtain ⟨W2, hW2, BW2⟩ := quiet_world (w := wr) (d := dq) (os := osq)
            rw [hW2]
            clear hW2 dq osq
            go_wp2_with fail
            go_ret2
            exact ⟨_, by rw [HF.out]; rfl, by rw [jnL_not HF.out]; exact Own.lit_0 rfl (HB.out.trans (BW2.mono HB.out.size)).size, (HB.out.trans (BW2.mono HB.out.size)).alloc (HB.out.trans (BW2.mono HB.out.size)).size _⟩
          have hpe : pkE (es.getD j noPk) = true := by rw [HGJ.out]; exact HPK.out
          have hp0 := first_ok HJ.out hpe
          have HA1 : Hid (adOk k qs nm p = true) := Lib.hid (by have h := (pkE_parts hpe).1; rw [HGJ.out] at h; exact h)
          have HA0 : Hid (adOk k0 qs0 nm0 p0 = true) := Lib.hid (by have h := (pkE_parts hp0).1; rw [HG0.out] at h; exact h)
          have HDL : Hid (ds.length ≤ 40) := Lib.hid (by have h := (pkE_parts hpe).2; rw [HGJ.out] at h; exact h)
          obtain ⟨SM, hSM⟩ : ∃ SM, decide (adT k qs nm p = adT k0 qs0 nm0 p0) = SM := ⟨_, rfl⟩
          have HSM := Lib.hid hSM
          have Q2 : Hid (∀ d os, Calls Tryd.prog 24 #[.agg #[.int .i64 k, .slice A6 qs.length c6, .string nm, .int .i64 p], .agg #[.int .i64 k0, .slice A8 qs0.length c8, .string nm0, .int .i64 p0]] (grow (redrawn wr d) os) fun e w'' => e = .returned (.bool SM) ∧ ∃ p : Regrown, w'' = grow (redrawn wr p.d) p.os) := Lib.hid fun d os => Calls.regrown_of (by rw [← hSM]; exact l13Same_any k _ nm p qs k0 _ nm0 p0 qs0 _ (IQ.out.below (below_regrown wr d os)) (IQ0.out.below (below_regrown wr d os)) HA1.out HA0.out hnm hnm0)
          have HPE := Lib.hid hpe
          clear hpe hp0 hSM
          cases SM
          · have hfail : jnAt es j = false := by unfold jnAt adE; rw [HGJ.out, HG0.out]; dsimp only; rw [HSM.out, Bool.and_false]; rfl
            have HF := Lib.hid (jnOk_not (by rw [HEN.out]; exact hlt) hfail)
            clear hfail
            go_wp2_with fail
            refine wp_region_quiet_below (by kernel_rfl) (by kernel_rfl) ?_
            repeat (go_big_quiet_step (first | with_reducible exact Q1.out _ _ | with_reducible exact Q2.out _ _))
            refine wpQuiet_nil ?_
            intro _ hw'
            obtain ⟨⟨dq, osq⟩, hw''⟩ := hw'
            subst hw''
            obtain ⟨W2, hW2, BW2⟩ := quiet_world (w := wr) (d := dq) (os := osq)
            rw [hW2]
            clear hW2 dq osq
            go_wp2_with fail
            go_ret2
            exact ⟨_, by rw [HF.out]; rfl, by rw [jnL_not HF.out]; exact Own.lit_0 rfl (HB.out.trans (BW2.mono HB.out.size)).size, (HB.out.trans (BW2.mono HB.out.size)).alloc (HB.out.trans (BW2.mono HB.out.size)).size _⟩
          have HLEN : Hid ((jnD es j).length + ds.length ≤ 1099511627776) := Lib.hid (by have h := jnD_le (by rw [HEN.out]; exact hj) HJ.out; have := HDL.out; omega)
          have HAT : Hid (jnAt es j = fragW n j f) := Lib.hid (by
            have h1 := HPE.out
            have h2 := HSM.out
            unfold jnAt
            rw [h1, HGJ.out, HG0.out, HEN.out]
            unfold adE
            dsimp only
            rw [h2]
            rfl)
          have HDN : Hid (jnD es (j + 1) = jnD es j ++ ds) := Lib.hid (jnD_succ HEJ.out)
          by_cases hf : f = ((j : Int) + 1)
          · have HT2 : Hid (jnTo es (j + 1) = true) := Lib.hid (by rw [jnTo_succ, HJ.out, HAT.out, HFR.out, decide_eq_true hf]; rfl)
            (try subst hf)
            go_wp2_with fail
            refine wp_region_quiet_below (by kernel_rfl) (by kernel_rfl) ?_
            repeat (go_big_quiet_step (first | with_reducible exact Q1.out _ _ | with_reducible exact Q2.out _ _))
            refine wpQuiet_nil ?_
            intro _ hw'
            obtain ⟨⟨dq, osq⟩, hw''⟩ := hw'
            subst hw''
            obtain ⟨W2, hW2, BW2⟩ := quiet_world (w := wr) (d := dq) (os := osq)
            rw [hW2]
            clear hW2 dq osq
            have B2 := Lib.hid (HB.out.trans (BW2.mono HB.out.size))
            have O2 := Lib.hid (OD.out.below BW2)
            have D2 := Lib.hid (ID.out.below BW2)
            have t5 : W2.cell? ⟨b, o + j * 6 + 5, none⟩ = some (.slice A7 ds.length c7) := (B2.out.cell (p := ⟨b, o + j * 6 + 5, none⟩) HBB.out).trans HC.out.2.2.2.2.2
            clear BW2
            go_wp2_with (at_builtin; refine wp_ints rfl (.tmp 63) (.tmp 68) rfl rfl rfl O2.out D2.out HLEN.out B2.out.size ?_; intro v3 w3 o3 b3 g3 k3; have O3 := Lib.hid o3; have B3 := Lib.hid (B2.out.trans b3); clear o3 b3 g3 k3)
            go_roundg (n - (j + 1))
            case measure => omega
            case rel => exact ⟨j + 1, rfl, by omega, by first | rfl | simp, HT2, Lib.hid (by rw [HDN.out]; exact O3.out), B3⟩
          · have HF := Lib.hid (jnOk_not (by rw [HEN.out]; exact hlt) (HAT.out.trans (HFR.out.trans (decide_eq_false hf))))
            go_wp2_with fail
            refine wp_region_quiet_below (by kernel_rfl) (by kernel_rfl) ?_
            repeat (go_big_quiet_step (first | with_reducible exact Q1.out _ _ | with_reducible exact Q2.out _ _))
            refine wpQuiet_nil ?_
            intro _ hw'
            obtain ⟨⟨dq, osq⟩, hw''⟩ := hw'
            subst hw''
            obtain ⟨W2, hW2, BW2⟩ := quiet_world (w := wr) (d := dq) (os := osq)
            rw [hW2]
            clear hW2 dq osq
            go_wp2_with fail
            go_ret2
            exact ⟨_, by rw [HF.out]; rfl, by rw [jnL_not HF.out]; exact Own.lit_0 rfl (HB.out.trans (BW2.mono HB.out.size)).size, (HB.out.trans (BW2.mono HB.out.size)).alloc (HB.out.trans (BW2.mono HB.out.size)).size _⟩
    · have hge : ¬ (j : Int) < (n : Int) := by omega
      have hjn : j = n := by omega
      subst hjn
      clear hlt
      by_cases h0 : j = 0
      · have HF := Lib.hid (jn_none (by rw [HEN.out]; exact h0))
        subst h0
        go_wp2_with fail
        go_ret2
        exact ⟨_, by rw [HF.out]; rfl, by rw [jnL_not HF.out]; exact Own.lit_0 rfl HB.out.size, HB.out.alloc HB.out.size _⟩
      · have h0' : ¬ (j : Int) = 0 := by omega
        have HL := Lib.hid (jn_last HEN.out h0 HJ.out)
        by_cases h120 : (jnD es j).length ≤ 120
        · have HF : Hid (jnOk es = true) := Lib.hid (by rw [HL.out, decide_eq_true h120])
          have HLL : Hid (jnL es = jnD es j) := Lib.hid (by rw [jnL_ok HF.out, HEN.out])
          have h120' : ¬ (120 : Int) < ((jnD es j).length : Int) := by omega
          clear h120 h0
          go_wp2_with fail
          go_ret2
          exact ⟨_, by rw [HF.out]; rfl, by rw [HLL.out]; exact OD.out, HB.out⟩
        · have HF : Hid (jnOk es = false) := Lib.hid (by rw [HL.out, decide_eq_false h120])
          have h120' : (120 : Int) < ((jnD es j).length : Int) := by omega
          clear h120 h0
          go_wp2_with fail
          go_ret2
          exact ⟨_, by rw [HF.out]; rfl, by rw [jnL_not HF.out]; exact Own.lit_0 rfl HB.out.size, HB.out.alloc HB.out.size _⟩
end Go.Proofs.YtpcflkdeoafpeaaDoor
