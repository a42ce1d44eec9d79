/-
  An address read back from its text, and from what asks for a tunnel: plain laws, no program. Conditions: none.
-/
import Derived.Test.YtjnnmihbkieblaaDoorFromT
import Derived.Test.YtjnnmihbkieblaaDoorCtx
namespace Go.Proofs.YtjnnmihbkieblaaDoor
open Go.RowKit

/-- The letters of a name's part. -/
theorem part_no {p : ByteArray} {c : UInt8} (h : partOk p = true) (hc : c.toNat < 45 ∨ c.toNat = 58) : c ∉ p.data.toList := by
  intro hm
  unfold partOk at h
  simp only [Bool.and_eq_true] at h
  have h1 := wordL_mem h.2 (c.toNat : Int) (List.mem_map.2 ⟨c, hm, rfl⟩)
  simp only [wordB, Bool.or_eq_true, Bool.and_eq_true, decide_eq_true_eq, List.mem_singleton] at h1
  omega
theorem glue_mem {c x : UInt8} : ∀ {ps : List (List UInt8)}, x ∈ glue c ps → x = c ∨ ∃ p ∈ ps, x ∈ p
  | [], h => by simp [glue] at h
  | [a], h => .inr ⟨a, by simp, h⟩
  | a :: b :: r, h => by
    rw [glue_cons (by simp), List.mem_append, List.mem_cons] at h
    rcases h with h | h | h
    · exact .inr ⟨a, by simp, h⟩
    · exact .inl h
    · rcases glue_mem h with h | ⟨p, hp, hx⟩
      · exact .inl h
      · exact .inr ⟨p, by simp [hp], hx⟩
theorem name_parts {s p : ByteArray} (h : nameOk s = true) (hp : p ∈ piecesB 46 s) : partOk p = true := by
  unfold nameOk partsTo at h
  simp only [Bool.and_eq_true, List.take_length, List.all_eq_true] at h
  exact h.1.1 p hp
theorem name_no {s : ByteArray} {c : UInt8} (h : nameOk s = true) (hc : c.toNat < 45 ∨ c.toNat = 58) : c ∉ s.data.toList := by
  intro hm
  rw [parts_of s] at hm
  rcases glue_mem hm with rfl | ⟨l, hl, hx⟩
  · exact absurd hc (by decide)
  · obtain ⟨p, hp, rfl⟩ := List.mem_map.1 hl
    exact part_no (name_parts h hp) hc hx
theorem quad_no {q : List Int} {c : UInt8} (hc : c.toNat < 46 ∨ c.toNat = 58) : c ∉ (quadB q).data.toList := by
  intro hm
  rw [quadB_data] at hm
  rcases glue_mem hm with rfl | ⟨l, hl, hx⟩
  · exact absurd hc (by decide)
  · simp only [List.mem_cons, List.not_mem_nil, or_false] at hl
    have h := dec_no (n := 0) (c := c)
    rcases hl with rfl | rfl | rfl | rfl <;> (have := dec_digit hx; omega)
/-- A name is no quad's text. -/
theorem name_noQuad {s : ByteArray} (h : nameOk s = true) : NoQuad s := by
  rintro q hq rfl
  obtain ⟨a, b, c, d, rfl, _, _, _, _⟩ := quad_four hq
  unfold nameOk at h
  simp only [Bool.and_eq_true] at h
  have h2 := h.2
  rw [quad_pieces] at h2
  obtain ⟨x, hx⟩ : ∃ x : Int, ([(a : Int), (b : Int), (c : Int), (d : Int)]).getD 3 0 = x := ⟨_, rfl⟩
  rw [hx] at h2
  have e : lastB [decB (([(a : Int), (b : Int), (c : Int), (d : Int)]).getD 0 0).toNat, decB (([(a : Int), (b : Int), (c : Int), (d : Int)]).getD 1 0).toNat, decB (([(a : Int), (b : Int), (c : Int), (d : Int)]).getD 2 0).toNat, decB x.toNat] = (numsOf (decB x.toNat)).getD 0 0 := rfl
  rw [e] at h2
  have hd : numsOf (decB x.toNat) = (Lib.decDigits x.toNat).map fun c => (c.toNat : Int) := by simp [numsOf, decB]
  rw [hd] at h2
  have hp := dec_pos x.toNat
  have hg := fun c (hc : c ∈ Lib.decDigits x.toNat) => dec_digit hc
  revert hp hg h2
  generalize Lib.decDigits x.toNat = l
  intro h2 hp hg
  match l, hp, hg, h2 with
  | y :: r, _, hg, h2 =>
    have := hg y (by simp)
    simp [smallL] at h2
    omega
theorem host_no {k : Int} {qs : List Int} {nm : ByteArray} {p : Int} {c : UInt8} (h : adOk k qs nm p = true) (hc : c.toNat < 45 ∨ c.toNat = 58) : c ∉ (hostB k qs nm).data.toList := by
  unfold hostB
  split
  · exact quad_no (by omega)
  · rename_i hk
    exact name_no (adOk_name h hk).2.2.1 hc
theorem adT_data (k : Int) (qs : List Int) (nm : ByteArray) (p : Int) : (adT k qs nm p).data.toList = (hostB k qs nm).data.toList ++ 58 :: Lib.decDigits p.toNat := by
  simp [adT, colB, decB, ByteArray.data_append]
theorem adT_blank {k : Int} {qs : List Int} {nm : ByteArray} {p : Int} (h : adOk k qs nm p = true) : (32 : UInt8) ∉ (adT k qs nm p).data.toList := by
  rw [adT_data, List.mem_append, List.mem_cons]
  rintro (h1 | h1 | h1)
  · exact host_no h (.inl (by decide)) h1
  · exact absurd h1 (by decide)
  · exact dec_no (.inl (by decide)) h1
/-- The text is that of an address. -/
def IsAd (s : ByteArray) (k : Int) (qs : List Int) (nm : ByteArray) (p : Int) : Prop := adOk k qs nm p = true ∧ adT k qs nm p = s
def NoAd (s : ByteArray) : Prop := ∀ k qs nm p, ¬ IsAd s k qs nm p
theorem ext_of {a b : ByteArray} (h : a.data.toList = b.data.toList) : a = b := ByteArray.ext (Array.ext' h)
/-- A text that is cut at its first colon. -/
theorem ad_split {s a b : ByteArray} {k : Int} {qs : List Int} {nm : ByteArray} {p : Int} (h : IsAd s k qs nm p) (hs : s.data.toList = a.data.toList ++ 58 :: b.data.toList) (ha : (58 : UInt8) ∉ a.data.toList) : hostB k qs nm = a ∧ decB p.toNat = b := by
  have h1 := h.2
  rw [← h1, adT_data] at hs
  obtain ⟨e1, e2⟩ := split_inj hs (host_no h.1 (.inr (by decide))) ha
  exact ⟨ext_of e1, ext_of (by rw [← e2]; simp [decB])⟩
theorem noAd_cut {s : ByteArray} (h : (58 : UInt8) ∉ s.data.toList) : NoAd s := by
  rintro k qs nm p ⟨_, rfl⟩
  rw [adT_data] at h
  simp at h
theorem noAd_port {s a b : ByteArray} (hs : s.data.toList = a.data.toList ++ 58 :: b.data.toList) (ha : (58 : UInt8) ∉ a.data.toList) (hb : dcm b = none) : NoAd s := by
  intro k qs nm p h
  have h1 := (ad_split h hs ha).2
  have h2 := adOk_port h.1
  rw [← h1, dcm_dec (by omega)] at hb
  cases hb
theorem adT_of {s a b : ByteArray} {n : Int} (hs : s.data.toList = a.data.toList ++ 58 :: b.data.toList) (hb : dcm b = some n) (hn : 0 ≤ n) {k : Int} {qs : List Int} {nm : ByteArray} (hh : hostB k qs nm = a) : adT k qs nm n = s := by
  apply ext_of
  rw [adT_data, hh, hs, dcm_nat hb hn]
  simp [decB]
theorem port_of {s a b : ByteArray} {n : Int} {k : Int} {qs : List Int} {nm : ByteArray} {p : Int} (h : IsAd s k qs nm p) (hs : s.data.toList = a.data.toList ++ 58 :: b.data.toList) (ha : (58 : UInt8) ∉ a.data.toList) (hb : dcm b = some n) : p = n := by
  have h1 := (ad_split h hs ha).2
  have h2 := adOk_port h.1
  rw [← h1, dcm_dec (by omega)] at hb
  injection hb with hb
  omega
/-- With a quad for its host. -/
theorem ad_quad {s a b : ByteArray} {q : List Int} (hs : s.data.toList = a.data.toList ++ 58 :: b.data.toList) (ha : (58 : UInt8) ∉ a.data.toList) (hq : quadOk q = true) (hqa : quadB q = a) {k : Int} {qs : List Int} {nm : ByteArray} {p : Int} (h : IsAd s k qs nm p) : k = 1 ∧ qs = q ∧ nm = ⟨#[]⟩ := by
  have h1 := (ad_split h hs ha).1
  by_cases hk : k = 1
  · obtain ⟨_, h3, h4⟩ := adOk_quad h.1 hk
    subst hk
    have h5 : quadB qs = a := by simpa [hostB] using h1
    refine ⟨rfl, quad_inj h3 hq (h5.trans hqa.symm), ByteArray.ext (Array.eq_empty_of_size_eq_zero h4)⟩
  · obtain ⟨_, _, h4, _⟩ := adOk_name h.1 hk
    have h5 : nm = a := by simpa [hostB, hk] using h1
    exact absurd (hqa.trans h5.symm) (name_noQuad h4 q hq)
theorem ad_name {s a b : ByteArray} (hs : s.data.toList = a.data.toList ++ 58 :: b.data.toList) (ha : (58 : UInt8) ∉ a.data.toList) (hn : NoQuad a) {k : Int} {qs : List Int} {nm : ByteArray} {p : Int} (h : IsAd s k qs nm p) : k = 3 ∧ qs = [] ∧ nm = a := by
  have h1 := (ad_split h hs ha).1
  by_cases hk : k = 1
  · obtain ⟨_, h3, _⟩ := adOk_quad h.1 hk
    subst hk
    have h5 : quadB qs = a := by simpa [hostB] using h1
    exact absurd h5 (hn qs h3)
  · obtain ⟨h2, _, _, h4⟩ := adOk_name h.1 hk
    exact ⟨h2, h4, by simpa [hostB, hk] using h1⟩
theorem ad_inj {s : ByteArray} {k k' : Int} {qs qs' : List Int} {nm nm' : ByteArray} {p p' : Int} (h : IsAd s k qs nm p) (h' : IsAd s k' qs' nm' p') : k' = k ∧ qs' = qs ∧ nm' = nm ∧ p' = p := by
  have hs : s.data.toList = (hostB k qs nm).data.toList ++ 58 :: (decB p.toNat).data.toList := by rw [← h.2, adT_data]; simp [decB]
  have ha := host_no (c := 58) h.1 (.inr (by decide))
  have hp := port_of h' hs ha (dcm_dec (n := p.toNat) (by have := adOk_port h.1; omega))
  have hp0 := adOk_port h.1
  have hp' : p' = p := by omega
  by_cases hk : k = 1
  · obtain ⟨_, h3, h4⟩ := adOk_quad h.1 hk
    obtain ⟨e1, e2, e3⟩ := ad_quad hs ha h3 (by simp [hostB, hk]) h'
    exact ⟨by omega, e2, e3.trans (ByteArray.ext (Array.eq_empty_of_size_eq_zero h4)).symm, hp'⟩
  · obtain ⟨h2, _, h3, h4⟩ := adOk_name h.1 hk
    obtain ⟨e1, e2, e3⟩ := ad_name hs ha (by simp only [hostB, hk, if_false]; exact name_noQuad h3) h'
    exact ⟨by omega, by rw [e2, h4], by simpa [hostB, hk] using e3, hp'⟩

/-! what asks for a tunnel -/
def IsCon (s : ByteArray) (k : Int) (qs : List Int) (nm : ByteArray) (p : Int) : Prop := adOk k qs nm p = true ∧ beg s (conT (adT k qs nm p)) = true
def NoCon (s : ByteArray) : Prop := ∀ k qs nm p, ¬ IsCon s k qs nm p
theorem con_data {s t : ByteArray} (h : beg s (conT t) = true) : ∃ u : ByteArray, s.data.toList = conB.data.toList ++ (t.data.toList ++ 32 :: u.data.toList) := by
  obtain ⟨r, rfl⟩ := beg_split h
  refine ⟨⟨#[72, 84, 84, 80, 47, 49, 46, 49, 13, 10, 72, 111, 115, 116, 58, 32]⟩ ++ t ++ endB ++ r, ?_⟩
  simp [conT, midB, ByteArray.data_append]
theorem con_beg {s t : ByteArray} (h : beg s (conT t) = true) : beg s conB = true := by
  obtain ⟨u, hu⟩ := con_data h
  rw [beg_iff, hu]
  exact List.prefix_append _ _
/-- The text behind the word, up to the first blank. -/
theorem con_text {s a b : ByteArray} (hs : s.data.toList = conB.data.toList ++ (a.data.toList ++ 32 :: b.data.toList)) (ha : (32 : UInt8) ∉ a.data.toList) {k : Int} {qs : List Int} {nm : ByteArray} {p : Int} (h : IsCon s k qs nm p) : IsAd a k qs nm p := by
  obtain ⟨u, hu⟩ := con_data h.2
  rw [hs] at hu
  have h1 := List.append_cancel_left hu
  exact ⟨h.1, ext_of (split_inj h1 ha (adT_blank h.1)).1.symm⟩
theorem noCon_blank {s : ByteArray} {r : List UInt8} (hs : s.data.toList = conB.data.toList ++ r) (hr : (32 : UInt8) ∉ r) : NoCon s := by
  intro k qs nm p h
  obtain ⟨u, hu⟩ := con_data h.2
  rw [hs] at hu
  have h1 := List.append_cancel_left hu
  rw [h1] at hr
  simp at hr
theorem noCon_beg {s : ByteArray} (h : beg s conB = false) : NoCon s := by
  intro k qs nm p h1
  rw [con_beg h1.2] at h
  cases h
end Go.Proofs.YtjnnmihbkieblaaDoor
