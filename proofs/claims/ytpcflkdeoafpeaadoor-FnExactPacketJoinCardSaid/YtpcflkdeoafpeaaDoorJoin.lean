/-
  PacketJoin of the program and of the reference. Conditions: the packets, their quads and data are read; their names are shorter than 2^32 - 15 bytes; there are at most 2^20 of them; the table of powers of ten reads as it was laid.
-/
import Derived.Test.YtpcflkdeoafpeaaDoorSameT
import Derived.Test.YtpcflkdeoafpeaaDoorJoinL
import Derived.Test.YtpcflkdeoafpeaaDoorCutLaw
import Derived.Test.YtpcflkdeoafpeaaDoorAppend
import Derived.Deep.LoopGhost
import Derived.Lib.QuietBelow
import Derived.BigQuiet
namespace Go.Proofs.YtpcflkdeoafpeaaDoor
open Go.RowKit Go.Sort

/-- Own rows of the call's own stay where blocks are only added. -/
theorem quiet_world {w : World} {d : Nat} {os : Array Obj} : ∃ W2, grow (redrawn w d) os = W2 ∧ Below w.heap.size w W2 := ⟨_, rfl, below_regrown w d os⟩

set_option maxRecDepth 100000 in
set_option maxHeartbeats 4000000 in
theorem impl_PacketJoin_any (v : Value) (zs : List ((Int × Int × List Int × ByteArray × Int × List Int) × Value × Value)) (w : World) (hv : Pkts w 0 v zs) (hr : ReadK w zs) (hnm : ∀ z ∈ zs, z.1.2.2.2.1.size < 4294967281) (hlen : zs.length ≤ 1048576) (ht : Tabs w) : Calls Tryd.prog 6 #[v] w fun e w' => Gave w (jnL (zs.map Prod.fst)) (jnOk (zs.map Prod.fst)) e w' := by
  have HR := Lib.hid hr
  have HNM := Lib.hid hnm
  have HT := Lib.hid ht
  obtain ⟨A, c, rfl, hc, hm, hA⟩ := hv.open_
  have HA := Lib.hid hA
  obtain ⟨es, hes⟩ : ∃ es, zs.map Prod.fst = es := ⟨_, rfl⟩
  have HES := Lib.hid hes
  obtain ⟨n, hn⟩ : ∃ n, zs.length = n := ⟨_, rfl⟩
  have HN := Lib.hid hn
  have HEN : Hid (es.length = n) := Lib.hid (by rw [← hes, List.length_map, hn])
  rw [hes]
  rw [hn] at hc hlen ⊢
  clear hv hr hnm hA hes hn ht
  go_enter Tryd.func6, Tryd.ntmps6
  go_wp2_with fail
  go_loopg [4, 10] n (fun g v i wr => ∃ j : Nat, g = n - j ∧ j ≤ n ∧ i = .int .i64 (j : Int) ∧ Hid (jnTo es j = true) ∧ Hid (Own wr w.heap.size v (jnD es j)) ∧ Hid (Below w.heap.size w wr))
  case atStart => exact ⟨0, by omega, Nat.zero_le _, rfl, Lib.hid rfl, Lib.hid (Own.nil_ _ _), Lib.hid (Below.refl _ _)⟩
  case round =>
    obtain ⟨j, rfl, hj, rfl, HJ, OD, HB⟩ := hrel
    obtain ⟨AV, cv, rfl, _, _, _⟩ := OD.out.form
    by_cases hlt : j < n
    · have hlt' : (j : Int) < (n : Int) := by omega
      have hji0 : (0 : Int) ≤ (j : Int) := by omega
      have hn0 : (0 : Int) < (n : Int) := by omega
      obtain ⟨b, o, rfl, _, hb2, hs⟩ := HA.out.resolve_left (fun h => by have := HN.out; rw [h] at this; simp at this; omega)
      obtain ⟨z, hz⟩ : ∃ z, zs[j]? = some z := ⟨zs[j]'(by rw [HN.out]; exact hlt), List.getElem?_eq_getElem _⟩
      obtain ⟨z0, hz0⟩ : ∃ z, zs[0]? = some z := ⟨zs[0]'(by rw [HN.out]; omega), List.getElem?_eq_getElem _⟩
      have hej : es[j]? = some z.1 := by rw [← HES.out, List.getElem?_map, hz]; rfl
      have he0 : es[0]? = some z0.1 := by rw [← HES.out, List.getElem?_map, hz0]; rfl
      obtain ⟨hq, hd⟩ := HR.out z (List.mem_of_getElem? hz)
      obtain ⟨hq0, _⟩ := HR.out z0 (List.mem_of_getElem? hz0)
      have hnm : z.1.2.2.2.1.size < 4294967281 := HNM.out z (List.mem_of_getElem? hz)
      have hnm0 : z0.1.2.2.2.1.size < 4294967281 := HNM.out z0 (List.mem_of_getElem? hz0)
      have C := pk_cells (hs.below HB.out hb2) hz
      have C0 := pk_cells (hs.below HB.out hb2) hz0
      have HC := Lib.hid (pk_cells hs hz)
      have HC0 := Lib.hid (pk_cells hs hz0)
      obtain ⟨⟨f, k, qs, nm, p, ds⟩, q6, d6⟩ := z
      obtain ⟨⟨f0, k0, qs0, nm0, p0, ds0⟩, q8, d8⟩ := z0
      dsimp only at hq hd hq0 hnm hnm0 C C0 HC HC0 hej he0
      obtain ⟨A6, c6, rfl, _, _, _⟩ := hq.open_
      obtain ⟨A7, c7, rfl, _, _, _⟩ := hd.open_
      obtain ⟨A8, c8, rfl, _, _, _⟩ := hq0.open_
      have gj := getD_of hej
      have g0 := getD_of he0
      have HEJ := Lib.hid hej
      have HGJ := Lib.hid gj
      have HG0 := Lib.hid g0
      have HQ := Lib.hid hq
      have HD := Lib.hid hd
      have HQ0 := Lib.hid hq0
      have HBB := Lib.hid hb2
      simp only [Nat.zero_mul, Nat.add_zero] at C0 HC0
      obtain ⟨y0, y1, y2, y3, y4, y5⟩ := C
      obtain ⟨_, x1, x2, x3, x4, _⟩ := C0
      clear hs hz hz0 hej he0 hq hd hq0 gj g0
      obtain ⟨V, hV⟩ : ∃ V, wr.alloc (.cells #[.int .i64 f, .int .i64 k, .slice A6 qs.length c6, .string nm, .int .i64 p, .slice A7 ds.length c7] 32) = V := ⟨_, rfl⟩
      have X : Hid (Blk V wr.heap.size 32 #[.int .i64 f, .int .i64 k, .slice A6 qs.length c6, .string nm, .int .i64 p, .slice A7 ds.length c7]) := Lib.hid (by rw [← hV]; exact Blk.new _ _ _)
      have BV : Hid (Below w.heap.size w V) := Lib.hid (by rw [← hV]; exact HB.out.alloc HB.out.size _)
      have OV : Hid (Own V w.heap.size (.slice AV (jnD es j).length cv) (jnD es j)) := Lib.hid (by rw [← hV]; exact OD.out.alloc _)
      have BWV : Hid (Below wr.heap.size wr V) := Lib.hid (by rw [← hV]; exact (Below.refl _ _).alloc (Nat.le_refl _) _)
      have IQ := Lib.hid ((HQ.out.below HB.out).below BWV.out)
      have ID := Lib.hid ((HD.out.below HB.out).below BWV.out)
      have IQ0 := Lib.hid ((HQ0.out.below HB.out).below BWV.out)
      have TV := Lib.hid (HT.out.below BV.out)
      have v0 : V.cell? ⟨wr.heap.size, 0, none⟩ = some (.int .i64 f) := X.out.cell 0
      have kv0 := cell_regrown v0
      have v1 : V.cell? ⟨wr.heap.size, 1, none⟩ = some (.int .i64 k) := X.out.cell 1
      have kv1 := cell_regrown v1
      have v2 : V.cell? ⟨wr.heap.size, 2, none⟩ = some (.slice A6 qs.length c6) := X.out.cell 2
      have kv2 := cell_regrown v2
      have v3 : V.cell? ⟨wr.heap.size, 3, none⟩ = some (.string nm) := X.out.cell 3
      have kv3 := cell_regrown v3
      have v4 : V.cell? ⟨wr.heap.size, 4, none⟩ = some (.int .i64 p) := X.out.cell 4
      have kv4 := cell_regrown v4
      have v5 : V.cell? ⟨wr.heap.size, 5, none⟩ = some (.slice A7 ds.length c7) := X.out.cell 5
      have kv5 := cell_regrown v5
      have u1 : V.cell? ⟨b, o + 1, none⟩ = some (.int .i64 k0) := (BV.out.cell (p := ⟨b, o + 1, none⟩) HBB.out).trans HC0.out.2.1
      have ku1 := cell_regrown u1
      have u2 : V.cell? ⟨b, o + 2, none⟩ = some (.slice A8 qs0.length c8) := (BV.out.cell (p := ⟨b, o + 2, none⟩) HBB.out).trans HC0.out.2.2.1
      have ku2 := cell_regrown u2
      have u3 : V.cell? ⟨b, o + 3, none⟩ = some (.string nm0) := (BV.out.cell (p := ⟨b, o + 3, none⟩) HBB.out).trans HC0.out.2.2.2.1
      have ku3 := cell_regrown u3
      have u4 : V.cell? ⟨b, o + 4, none⟩ = some (.int .i64 p0) := (BV.out.cell (p := ⟨b, o + 4, none⟩) HBB.out).trans HC0.out.2.2.2.2.1
      have ku4 := cell_regrown u4
      obtain ⟨PK, hPK⟩ : ∃ PK, pkOk f k qs nm p ds = PK := ⟨_, rfl⟩
      have HPK := Lib.hid hPK
      have Q1 : Hid (∀ d os, Calls Tryd.prog 21 #[.agg #[.int .i64 f, .int .i64 k, .slice A6 qs.length c6, .string nm, .int .i64 p, .slice A7 ds.length c7]] (grow (redrawn V d) os) fun e w'' => e = .returned (.bool PK) ∧ ∃ p : Regrown, w'' = grow (redrawn V p.d) p.os) := Lib.hid fun d os => Calls.regrown_of (by rw [← hPK]; exact isPacket_any f k _ nm p qs _ ds _ (IQ.out.below (below_regrown V d os)) (ID.out.below (below_regrown V d os)) hnm)
      clear hPK
      go_wp2_with fail
      clear y0 y1 y2 y3 y4 y5 x1 x2 x3 x4 hV v0 v1 v2 v3 v4 v5 u1 u2 u3 u4
      cases PK
      · have hfail : jnAt es j = false := by unfold jnAt pkE; rw [HGJ.out]; dsimp only; rw [HPK.out]; rfl
        have HF := Lib.hid (jnOk_not (by rw [HEN.out]; exact hlt) hfail)
        clear hfail
        refine wp_region_quiet_below (by kernel_rfl) (by kernel_rfl) ?_
        repeat (go_big_quiet_step (first | with_reducible exact Q1.out _ _))
        refine wpQuiet_nil ?_
        intro _ hw'
        obtain ⟨⟨dq, osq⟩, hw''⟩ := hw'
        subst hw''
        obtain ⟨W2, hW2, BW2⟩ := quiet_world (w := V) (d := dq) (os := osq)
        rw [hW2]
        clear hW2 dq osq
        go_wp2_with fail
        go_ret2
        exact ⟨_, by rw [HF.out]; rfl, by rw [jnL_not HF.out]; exact Own.nil_ _ _, BV.out.trans (BW2.mono BV.out.size)⟩
      have hpe : pkE (es.getD j noPk) = true := by rw [HGJ.out]; exact HPK.out
      have hp0 := first_ok HJ.out hpe
      have HA1 : Hid (adOk k qs nm p = true) := Lib.hid (by have h := (pkE_parts hpe).1; rw [HGJ.out] at h; exact h)
      have HA0 : Hid (adOk k0 qs0 nm0 p0 = true) := Lib.hid (by have h := (pkE_parts hp0).1; rw [HG0.out] at h; exact h)
      have HDL : Hid (ds.length ≤ 40) := Lib.hid (by have h := (pkE_parts hpe).2; rw [HGJ.out] at h; exact h)
      obtain ⟨SM, hSM⟩ : ∃ SM, decide (adT k qs nm p = adT k0 qs0 nm0 p0) = SM := ⟨_, rfl⟩
      have HSM := Lib.hid hSM
      have Q2 : Hid (∀ d os, Calls Tryd.prog 22 #[.agg #[.int .i64 k, .slice A6 qs.length c6, .string nm, .int .i64 p], .agg #[.int .i64 k0, .slice A8 qs0.length c8, .string nm0, .int .i64 p0]] (grow (redrawn V d) os) fun e w'' => e = .returned (.bool SM) ∧ ∃ p : Regrown, w'' = grow (redrawn V p.d) p.os) := Lib.hid fun d os => Calls.regrown_of (by rw [← hSM]; exact equalAddresses_any k _ nm p qs k0 _ nm0 p0 qs0 _ (IQ.out.below (below_regrown V d os)) (IQ0.out.below (below_regrown V d os)) HA1.out HA0.out (TV.out.below (below_regrown V d os)))
      have HPE := Lib.hid hpe
      clear hpe hp0 hSM
      cases SM
      · have hfail : jnAt es j = false := by unfold jnAt adE; rw [HGJ.out, HG0.out]; dsimp only; rw [HSM.out, Bool.and_false]; rfl
        have HF := Lib.hid (jnOk_not (by rw [HEN.out]; exact hlt) hfail)
        clear hfail
        refine wp_region_quiet_below (by kernel_rfl) (by kernel_rfl) ?_
        repeat (go_big_quiet_step (first | with_reducible exact Q1.out _ _ | with_reducible exact Q2.out _ _))
        refine wpQuiet_nil ?_
        intro _ hw'
        obtain ⟨⟨dq, osq⟩, hw''⟩ := hw'
        subst hw''
        obtain ⟨W2, hW2, BW2⟩ := quiet_world (w := V) (d := dq) (os := osq)
        rw [hW2]
        clear hW2 dq osq
        go_wp2_with fail
        go_ret2
        exact ⟨_, by rw [HF.out]; rfl, by rw [jnL_not HF.out]; exact Own.nil_ _ _, BV.out.trans (BW2.mono BV.out.size)⟩
      refine wp_region_quiet_below (by kernel_rfl) (by kernel_rfl) ?_
      repeat (go_big_quiet_step (first | with_reducible exact Q1.out _ _ | with_reducible exact Q2.out _ _))
      refine wpQuiet_nil ?_
      intro _ hw'
      obtain ⟨⟨dq, osq⟩, hw''⟩ := hw'
      subst hw''
      obtain ⟨W2, hW2, BW2⟩ := quiet_world (w := V) (d := dq) (os := osq)
      rw [hW2]
      clear hW2 dq osq
      have X2 := Lib.hid (X.out.kept BW2)
      have B2 := Lib.hid (BV.out.trans (BW2.mono BV.out.size))
      have O2 := Lib.hid (OV.out.below BW2)
      have D2 := Lib.hid (ID.out.below BW2)
      have t0 : W2.cell? ⟨wr.heap.size, 0, none⟩ = some (.int .i64 f) := X2.out.cell 0
      have t5 : W2.cell? ⟨wr.heap.size, 5, none⟩ = some (.slice A7 ds.length c7) := X2.out.cell 5
      have HLEN : Hid ((jnD es j).length + ds.length ≤ 1099511627776) := Lib.hid (by have h := jnD_le (by rw [HEN.out]; exact hj) HJ.out; have := HDL.out; omega)
      have HAT : Hid (jnAt es j = fragW n j f) := Lib.hid (by
        have h1 := HPE.out
        have h2 := HSM.out
        unfold jnAt
        rw [h1, HGJ.out, HG0.out, HEN.out]
        unfold adE
        dsimp only
        rw [h2]
        rfl)
      have HDN : Hid (jnD es (j + 1) = jnD es j ++ ds) := Lib.hid (jnD_succ HEJ.out)
      clear BW2 kv0 kv1 kv2 kv3 kv4 kv5 ku1 ku2 ku3 ku4
      by_cases hl : j + 1 = n
      all_goals
        first
          | (have hl1 : ¬ (j : Int) < (n : Int) - 1 := by omega
             have HWE : Hid (wantE n j = (j : Int) + 1 + 128) := Lib.hid (if_pos hl))
          | (have hl1 : (j : Int) < (n : Int) - 1 := by omega
             have HWE : Hid (wantE n j = (j : Int) + 1) := Lib.hid (if_neg hl))
        by_cases hf : fragW n j f = true
        · have HT2 : Hid (jnTo es (j + 1) = true) := Lib.hid (by rw [jnTo_succ, HJ.out, HAT.out, hf]; rfl)
          have hf' : f = wantE n j ∨ (f = 0 ∧ n = 1) := by simpa [fragW] using hf
          rw [HWE.out] at hf'
          clear hf hl
          rcases hf' with rfl | ⟨rfl, hn1⟩
          all_goals
            (try have hn2 : ¬ (1 : Int) < (n : Int) := by omega)
            (try clear hn1)
            go_wp2_with (at_builtin; refine wp_ints rfl (.tmp 51) (.tmp 53) rfl rfl rfl O2.out D2.out HLEN.out B2.out.size ?_; intro v3 w3 o3 b3 g3 k3; have O3 := Lib.hid o3; have B3 := Lib.hid (B2.out.trans b3); clear o3 b3 g3 k3)
            all_goals
              go_roundg (n - (j + 1))
              case measure => omega
              case rel => exact ⟨j + 1, rfl, by omega, by first | rfl | simp, HT2, Lib.hid (by rw [HDN.out]; exact O3.out), B3⟩
        · have hF : fragW n j f = false := by simpa using hf
          have hf' : f ≠ wantE n j ∧ (f ≠ 0 ∨ n ≠ 1) := by
            simp only [fragW, Bool.or_eq_false_iff, Bool.and_eq_false_iff, decide_eq_false_iff_not] at hF
            exact hF
          rw [HWE.out] at hf'
          have HF := Lib.hid (jnOk_not (by rw [HEN.out]; exact hlt) (HAT.out.trans hF))
          obtain ⟨hf1, hf2⟩ := hf'
          clear hF hf hl
          rcases hf2 with hf2 | hf2
          · go_wp2_with fail
            go_ret2
            exact ⟨_, by rw [HF.out]; rfl, by rw [jnL_not HF.out]; exact Own.nil_ _ _, B2.out⟩
          · have hn2 : (1 : Int) < (n : Int) := by omega
            by_cases hf3 : f = 0
            · subst hf3
              go_wp2_with fail
              go_ret2
              exact ⟨_, by rw [HF.out]; rfl, by rw [jnL_not HF.out]; exact Own.nil_ _ _, B2.out⟩
            · go_wp2_with fail
              go_ret2
              exact ⟨_, by rw [HF.out]; rfl, by rw [jnL_not HF.out]; exact Own.nil_ _ _, B2.out⟩
    · have hge : ¬ (j : Int) < (n : Int) := by omega
      have hjn : j = n := by omega
      subst hjn
      clear hlt
      by_cases h0 : j = 0
      · have HF := Lib.hid (jn_none (by rw [HEN.out]; exact h0))
        have h0' : (j : Int) = 0 := by omega
        subst h0
        go_wp2_with fail
        go_ret2
        exact ⟨_, by rw [HF.out]; rfl, by rw [jnL_not HF.out]; exact Own.nil_ _ _, HB.out⟩
      · have h0' : ¬ (j : Int) = 0 := by omega
        have HL := Lib.hid (jn_last HEN.out h0 HJ.out)
        by_cases h120 : (jnD es j).length ≤ 120
        · have HF : Hid (jnOk es = true) := Lib.hid (by rw [HL.out, decide_eq_true h120])
          have HLL : Hid (jnL es = jnD es j) := Lib.hid (by rw [jnL_ok HF.out, HEN.out])
          have h120' : ¬ (120 : Int) < ((jnD es j).length : Int) := by omega
          clear h120 h0
          go_wp2_with fail
          go_ret2
          exact ⟨_, by rw [HF.out]; rfl, by rw [HLL.out]; exact OD.out, HB.out⟩
        · have HF : Hid (jnOk es = false) := Lib.hid (by rw [HL.out, decide_eq_false h120])
          have h120' : (120 : Int) < ((jnD es j).length : Int) := by omega
          clear h120 h0
          go_wp2_with fail
          go_ret2
          exact ⟨_, by rw [HF.out]; rfl, by rw [jnL_not HF.out]; exact Own.nil_ _ _, HB.out⟩
end Go.Proofs.YtpcflkdeoafpeaaDoor
