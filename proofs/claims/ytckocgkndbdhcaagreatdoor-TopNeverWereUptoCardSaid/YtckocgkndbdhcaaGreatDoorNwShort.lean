/-
  Whether changes are few and of a moderate size: FewVersions, w11Short.
-/
import Derived.Test.YtckocgkndbdhcaaGreatDoorNwVers
import Derived.Deep.MidRow
namespace Go.Cz.Nw
/-- A change of a moderate size. -/
def SmC (c : Chg) : Prop := c.id.length ≤ 60 ∧ c.eid.length ≤ 60 ∧ c.ns.length ≤ 4 ∧ ∀ n ∈ c.ns, SmN n
end Go.Cz.Nw
namespace Go.Proofs.YtckocgkndbdhcaaGreatDoor
open Go.RowKit Go.Cz Go.Cz.Nw Go.Cz.Lx Go.ChangeMaps
set_option linter.unusedSimpArgs false
set_option linter.unusedVariables false
attribute [local go_sem] bs_size bs_extract bs_append bs_toList
attribute [local irreducible] cList cPlan
theorem fv_res {W : World} {tmps : Array Value} : (results Tryz.f14 tmps).run Tryz.prog W = .ok (tmps.getD 4 undef) W := by
  simp [results, Tryz.results14, go_sem]
theorem info_act : (Tryz.prog.info? 81).map (·.size) = some 37 := by kernel_rfl
theorem there_new (w : World) (cs : Array Value) (t : TypeId) {n : Nat} (hn : n = cs.size) : (w.alloc (.cells cs t)).there w.heap.size 0 n := fun j hj => by
  have hk := Bk.new w cs t
  rw [hk.cell, hk.free]
  refine ⟨?_, rfl⟩
  rw [Array.getElem?_eq_getElem (by omega)]
  rfl
theorem bk_cells {b : Nat} {t : TypeId} : ∀ (vs : List Value) (o : Nat) (cs : List Value) (w : World), Bk w b cs.toArray t → o + vs.length ≤ cs.length → Bk (w.setCells b o vs) b (cs.take o ++ vs ++ cs.drop (o + vs.length)).toArray t
  | [], o, cs, w, h, hl => by
    simpa [World.setCells] using h
  | v :: r, o, cs, w, h, hl => by
    simp only [List.length_cons] at hl
    have h2 := h.set o v
    have e : (cs.toArray.setIfInBounds o v) = (cs.set o v).toArray := by simp
    rw [e] at h2
    have h3 := bk_cells r (o + 1) (cs.set o v) _ h2 (by rw [List.length_set]; omega)
    have e2 : (cs.set o v).take (o + 1) ++ r ++ (cs.set o v).drop (o + 1 + r.length) = cs.take o ++ v :: r ++ cs.drop (o + (v :: r).length) := by
      rw [List.take_succ_eq_append_getElem (by rw [List.length_set]; omega), List.take_set_of_le (by omega), List.getElem_set_self, List.drop_set_of_lt (by omega), List.length_cons]
      simp only [List.append_assoc, List.cons_append, List.nil_append]
      rw [show o + 1 + r.length = o + (r.length + 1) by omega]
    rw [e2] at h3
    exact h3
theorem below_cells {n b : Nat} {a : World} (hb : n ≤ b) : ∀ (vs : List Value) (o : Nat) (w : World), Below n a w → Below n a (w.setCells b o vs)
  | [], _, _, h => h
  | v :: r, o, w, h => below_cells hb r (o + 1) _ (h.setCell (p := ⟨b, o, none⟩) hb v)
theorem bk_whole {w : World} {b : Nat} {t : TypeId} (vs cs : List Value) (h : Bk w b cs.toArray t) (hl : vs.length = cs.length) : Bk (w.setCells b 0 vs) b vs.toArray t := by
  have h2 := bk_cells vs 0 cs w h (by omega)
  rw [Nat.zero_add, List.take_zero, List.nil_append, List.drop_of_length_le (by omega), List.append_nil] at h2
  exact h2
def actZ : List Value := [.int .i64 0, .int .i64 0, .string ⟨#[]⟩, .string ⟨#[]⟩, .slice none 0 0, .int .i64 0, .string ⟨#[]⟩, .string ⟨#[]⟩, .int .i64 0, .string ⟨#[]⟩, .int .i64 0, .string ⟨#[]⟩, .int .i64 0, .int .i64 0, .slice none 0 0, .int .i64 0, .int .i64 0, .int .i64 0, .string ⟨#[]⟩, .slice none 0 0, .slice none 0 0, .int .i64 0, .int .i64 0, .int .i64 0, .int .i64 0, .string ⟨#[]⟩, .string ⟨#[]⟩, .string ⟨#[]⟩, .string ⟨#[]⟩, .string ⟨#[]⟩, .slice none 0 0, .int .i64 0, .int .i64 0, .int .i64 0, .int .i64 0, .string ⟨#[]⟩, .int .i64 0]
/-- What an opener knows of the names of the changes. -/
def NmsIn (w : World) (cs : List Chg) : Prop := ∀ c ∈ cs, IsNames w c.nv c.ns ∧ c.ns.length ≤ 9223372036854775807 ∧ ∀ n ∈ c.ns, n.ws.length ≤ 9223372036854775807
set_option maxRecDepth 100000 in
set_option maxHeartbeats 4000000 in
theorem fewV_c (cs : List Chg) (v : Value) (w : World) (hv : IsVers w v cs) (hnm : NmsIn w cs) (hn4 : cs.length ≤ 1048576) :
    Calls Tryz.prog 14 #[v, .int .i64 8] w fun e w' => ∃ b, e = .returned (.bool b) ∧ (b = true → cs.length ≤ 8 ∧ ∀ c ∈ cs, SmC c) ∧ Below w.heap.size w w' := by
  obtain ⟨y, cc, rfl, q⟩ := hv
  obtain ⟨n, hn⟩ : ∃ n, n = cs.length := ⟨_, rfl⟩
  have HN := Lib.hid hn
  have Q := Lib.hid q
  have HNm := Lib.hid hnm
  rw [← hn] at hn4 ⊢
  clear hn q hnm
  go_enter Tryz.func14, Tryz.ntmps14
  by_cases h8 : n ≤ 8
  rotate_left
  · have h8' : ((n : Nat) : Int) > 8 := by omega
    go_wp2_with fail
    refine bodyPost_ret fv_res (by rfl) ?_
    first | exact ⟨_, rfl, by simp, Below.refl _ _⟩ | exact ⟨rfl, Below.refl _ _⟩
  have h8' : ¬ ((n : Nat) : Int) > 8 := by omega
  have H8 := Lib.hid h8
  go_wp2_with fail
  clear h8' h8
  go_loopw [5] (fun i wr => ∃ j : Nat, j ≤ n ∧ i = .int .i64 (j : Int) ∧ Hid (Below w.heap.size w wr) ∧ Hid (∀ c ∈ cs.take j, SmC c)) (fun i _ => n - (intOf i).toNat)
  case atStart => exact ⟨0, Nat.zero_le _, rfl, Lib.hid (Below.refl _ _), Lib.hid (by simp)⟩
  obtain ⟨j, hj, rfl, HB, HJ⟩ := hrel
  by_cases hjn : j < n
  rotate_left
  · obtain rfl : j = n := by omega
    clear hjn hj
    go_wp2_with fail
    refine bodyPost_ret fv_res (by rfl) ⟨_, rfl, fun _ => ⟨H8.out, ?_⟩, HB.out⟩
    have h := HJ.out
    rw [HN.out, List.take_length] at h
    exact h
  have hlt : (j : Int) < (n : Int) := by omega
  obtain ⟨x, hxx⟩ : ∃ x, cs[j]? = some x := ⟨_, List.getElem?_eq_getElem (by rw [← HN.out]; exact hjn)⟩
  obtain ⟨g, o, a, rfl, hg, d3, d4, d6, d7, hbk⟩ := Q.out j x hxx
  have D4 := Lib.hid d4
  have HBk := Lib.hid hbk
  have HG := Lib.hid hg
  have HX := Lib.hid hxx
  have HNx := Lib.hid (HNm.out x (List.mem_of_getElem? hxx))
  replace d3 := old_cell HB.out d3
  replace d4 := old_cell HB.out d4
  replace d6 := old_cell HB.out d6
  replace d7 := old_cell HB.out d7
  have hg1 : g < wr.heap.size := Nat.lt_of_lt_of_le hg HB.out.size
  have la := hbk.lt
  have HLa := Lib.hid la
  clear hxx hbk hg la
  go_wp2_with fail
  clear d3 d4 d6 d7 hg1
  have HB0 := HB
  go_loopw [6] (fun i wr => (i = .int .i64 0 ∧ Hid (Below w.heap.size w wr)) ∨ (i = .int .i64 1 ∧ Hid (Below w.heap.size w wr) ∧ Hid (SmC x))) (fun i _ => 1 - (intOf i).toNat)
  case atStart => exact .inl ⟨rfl, HB⟩
  clear HB0
  rcases hrel with ⟨rfl, HB2⟩ | ⟨rfl, HB2, HS⟩
  rotate_left
  · have d4 := old_cell HB2.out D4.out
    have hg1 : g < wr.heap.size := Nat.lt_of_lt_of_le HG.out HB2.out.size
    go_wp2_with fail
    go_roundw
    case rel => exact ⟨j + 1, by omega, by go_num, HB2, Lib.hid (take_step HX.out HJ.out HS.out)⟩
    case measure => simp [intOf]; omega
  obtain ⟨k, id, eid, nv, ns, t⟩ := x
  obtain ⟨hnx, hx1, hx2⟩ := HNx.out
  dsimp only at hnx hx1 hx2
  have HNv := Lib.hid hnx
  obtain ⟨yn, cn, hnv, -⟩ := hnx
  subst hnv
  obtain ⟨m, hm⟩ : ∃ m, m = ns.length := ⟨_, rfl⟩
  have HM := Lib.hid hm
  rw [← hm] at HBk HNv hx1
  have HX1 := Lib.hid hx1
  have HX2 := Lib.hid hx2
  clear hm hx1 hx2
  have d4 := old_cell HB2.out D4.out
  have hg1 : g < wr.heap.size := Nat.lt_of_lt_of_le HG.out HB2.out.size
  have hk2 := HBk.out.below HB2.out
  have la1 := hk2.lt
  obtain ⟨A, hA⟩ : ∃ A, A = actL ⟨k, id, eid, .slice yn m cn, ns, t⟩ := ⟨_, rfl⟩
  have HA := Lib.hid hA
  have hAl : A.length = 37 := by rw [hA]; rfl
  have hA1 : A.toArray.all (·.oneCell') = true := by rw [hA]; simp [actL, Value.oneCell']
  have hR : wr.rangeAt a 0 A := fun i v hi => by
    rw [Nat.zero_add, hk2.cell, ← hA]
    simpa using hi
  have HAl := Lib.hid hAl
  have HA1 := Lib.hid hA1
  have HR := Lib.hid hR
  have hiA : (Tryz.prog.info? 81).map (·.size) = some A.length := by rw [hAl]; exact info_act
  have HiA := Lib.hid hiA
  clear hA hAl hA1 hR hk2 hiA
  go_upto_region 12 with (first
    | (refine wpList_plain rfl fun K hK => wp_load_mid 81 (.tmp 70) (by rfl) a 0 (by rfl) A _ HR.out Tryz.underlying81 (by rfl) HiA.out ?_; refine hK _ _ ?_)
    | (refine wpList_plain rfl fun K hK => wp_store_mid 81 (.tmp 7) (.tmp 71) (by rfl) wr.heap.size 0 A.toArray (by rfl) (by rfl) (there_new _ _ _ (by rw [List.size_toArray, HAl.out]; rfl)) (by rw [List.size_toArray]; exact HiA.out) HA1.out ?_; refine hK _ _ ?_))
  change Code.wp _ _ _ _ ((wr.alloc (.cells actZ.toArray 81)).setCells wr.heap.size 0 A)
  obtain ⟨b7, hb7⟩ : ∃ x, x = wr.heap.size := ⟨_, rfl⟩
  obtain ⟨W5, hW5⟩ : ∃ W, W = (wr.alloc (.cells actZ.toArray 81)).setCells wr.heap.size 0 A := ⟨_, rfl⟩
  have hk5 : Bk W5 b7 A.toArray 81 := by rw [hW5, hb7]; exact bk_whole A actZ (Bk.new _ _ _) (by rw [HAl.out]; rfl)
  have hB5 : Below w.heap.size w W5 := by rw [hW5]; exact below_cells HB2.out.size A 0 _ (HB2.out.alloc HB2.out.size _)
  rw [← hW5, ← hb7]
  clear hW5 hb7 d4 hg1 la1 HiA HR HAl HA1
  have HK5 := Lib.hid hk5
  have HB5 := Lib.hid hB5
  have c2 : W5.cell? ⟨b7, 2, none⟩ = some (.string (bs id)) := by rw [hk5.cell, HA.out]; rfl
  have c3 : W5.cell? ⟨b7, 3, none⟩ = some (.string (bs eid)) := by rw [hk5.cell, HA.out]; rfl
  have c4 : W5.cell? ⟨b7, 4, none⟩ = some (.slice yn m cn) := by rw [hk5.cell, HA.out]; rfl
  have l5 := hk5.lt
  clear hk5 hB5
  go_wp2_with fail
  go_at_call 25
  refine (small_c eid ns (.slice yn m cn) W5 (names_below HNv.out HB5.out) (by rw [← HM.out]; exact HX1.out) HX2.out).mono ?_
  rintro e W6 ⟨b, rfl, hb, hbe⟩
  clear c2 c3 c4 l5
  have hk6 := HK5.out.below hbe
  have HB6 := Lib.hid (HB5.out.trans (hbe.mono HB5.out.size))
  have HK6 := Lib.hid hk6
  rcases b with _ | _
  · clear hb hbe hk6
    go_wp2_with fail
    refine bodyPost_ret fv_res (by rfl) ?_
    first | exact ⟨_, rfl, by simp, HB6.out⟩ | exact ⟨rfl, HB6.out⟩
  have HSm := Lib.hid (hb rfl)
  have c10 : W6.cell? ⟨b7, 10, none⟩ = some (.int .i64 0) := by rw [hk6.cell, HA.out]; rfl
  have c11 : W6.cell? ⟨b7, 11, none⟩ = some (.string ⟨#[]⟩) := by rw [hk6.cell, HA.out]; rfl
  have c12 : W6.cell? ⟨b7, 12, none⟩ = some (.int .i64 0) := by rw [hk6.cell, HA.out]; rfl
  have c13 : W6.cell? ⟨b7, 13, none⟩ = some (.int .i64 0) := by rw [hk6.cell, HA.out]; rfl
  have c14 : W6.cell? ⟨b7, 14, none⟩ = some (.slice none 0 0) := by rw [hk6.cell, HA.out]; rfl
  have l6 := hk6.lt
  clear hk6 hb hbe HB5 HK5
  go_wp2_with fail
  go_at_call 26
  refine (nodes_c W6).mono ?_
  rintro e W7 ⟨rfl, hbe⟩
  clear c10 c11 c12 c13 c14 l6
  have hk7 := HK6.out.below hbe
  have HB7 := Lib.hid (HB6.out.trans (hbe.mono HB6.out.size))
  have HK7 := Lib.hid hk7
  have c18 : W7.cell? ⟨b7, 18, none⟩ = some (.string ⟨#[]⟩) := by rw [hk7.cell, HA.out]; rfl
  have c19 : W7.cell? ⟨b7, 19, none⟩ = some (.slice none 0 0) := by rw [hk7.cell, HA.out]; rfl
  have c20 : W7.cell? ⟨b7, 20, none⟩ = some (.slice none 0 0) := by rw [hk7.cell, HA.out]; rfl
  have c21 : W7.cell? ⟨b7, 21, none⟩ = some (.int .i64 0) := by rw [hk7.cell, HA.out]; rfl
  have c22 : W7.cell? ⟨b7, 22, none⟩ = some (.int .i64 0) := by rw [hk7.cell, HA.out]; rfl
  have c23 : W7.cell? ⟨b7, 23, none⟩ = some (.int .i64 0) := by rw [hk7.cell, HA.out]; rfl
  have c24 : W7.cell? ⟨b7, 24, none⟩ = some (.int .i64 0) := by rw [hk7.cell, HA.out]; rfl
  have l7 := hk7.lt
  clear hk7 hbe HB6 HK6
  go_wp2_with fail
  go_at_call 27
  refine (lic_c W7).mono ?_
  rintro e W8 ⟨rfl, hbe⟩
  clear c18 c19 c20 c21 c22 c23 c24 l7
  have hk8 := HK7.out.below hbe
  have HB8 := Lib.hid (HB7.out.trans (hbe.mono HB7.out.size))
  have HK8 := Lib.hid hk8
  have c25 : W8.cell? ⟨b7, 25, none⟩ = some (.string ⟨#[]⟩) := by rw [hk8.cell, HA.out]; rfl
  have c26 : W8.cell? ⟨b7, 26, none⟩ = some (.string ⟨#[]⟩) := by rw [hk8.cell, HA.out]; rfl
  have c27 : W8.cell? ⟨b7, 27, none⟩ = some (.string ⟨#[]⟩) := by rw [hk8.cell, HA.out]; rfl
  have c28 : W8.cell? ⟨b7, 28, none⟩ = some (.string ⟨#[]⟩) := by rw [hk8.cell, HA.out]; rfl
  have c29 : W8.cell? ⟨b7, 29, none⟩ = some (.string ⟨#[]⟩) := by rw [hk8.cell, HA.out]; rfl
  have c30 : W8.cell? ⟨b7, 30, none⟩ = some (.slice none 0 0) := by rw [hk8.cell, HA.out]; rfl
  have c31 : W8.cell? ⟨b7, 31, none⟩ = some (.int .i64 0) := by rw [hk8.cell, HA.out]; rfl
  have c32 : W8.cell? ⟨b7, 32, none⟩ = some (.int .i64 0) := by rw [hk8.cell, HA.out]; rfl
  have c33 : W8.cell? ⟨b7, 33, none⟩ = some (.int .i64 0) := by rw [hk8.cell, HA.out]; rfl
  have c34 : W8.cell? ⟨b7, 34, none⟩ = some (.int .i64 0) := by rw [hk8.cell, HA.out]; rfl
  have l8 := hk8.lt
  clear hk8 hbe HB7 HK7
  go_wp2_with fail
  go_at_call 28
  refine (hold_c _ _ (Bk.new W8 _ _)).mono ?_
  rintro e W10 ⟨rfl, hbe⟩
  clear c25 c26 c27 c28 c29 c30 c31 c32 c33 c34 l8
  have hbe2 := (Below.refl W8.heap.size W8).alloc (Nat.le_refl _) (.cells #[.string ⟨#[]⟩, .string ⟨#[]⟩, .string ⟨#[]⟩, .string ⟨#[]⟩, .string ⟨#[]⟩, .slice none 0 0, .int .i64 0, .int .i64 0, .int .i64 0, .int .i64 0] 79)
  have hbe3 := hbe2.trans (hbe.mono hbe2.size)
  have hk10 := HK8.out.below hbe3
  have HB10 := Lib.hid (HB8.out.trans (hbe3.mono HB8.out.size))
  have c35 : W10.cell? ⟨b7, 35, none⟩ = some (.string ⟨#[]⟩) := by rw [hk10.cell, HA.out]; rfl
  have c2 : W10.cell? ⟨b7, 2, none⟩ = some (.string (bs id)) := by rw [hk10.cell, HA.out]; rfl
  have c6 : W10.cell? ⟨b7, 6, none⟩ = some (.string ⟨#[]⟩) := by rw [hk10.cell, HA.out]; rfl
  have c7 : W10.cell? ⟨b7, 7, none⟩ = some (.string ⟨#[]⟩) := by rw [hk10.cell, HA.out]; rfl
  have c9 : W10.cell? ⟨b7, 9, none⟩ = some (.string ⟨#[]⟩) := by rw [hk10.cell, HA.out]; rfl
  have l10 := hk10.lt
  clear hk10 hbe hbe2 hbe3 HB8 HK8
  by_cases h60 : id.length ≤ 60
  rotate_left
  · have h60' : ((id.length : Nat) : Int) > 60 := by omega
    go_wp2_with fail
    refine bodyPost_ret fv_res (by rfl) ?_
    first | exact ⟨_, rfl, by simp, HB10.out⟩ | exact ⟨rfl, HB10.out⟩
  have h60' : ¬ ((id.length : Nat) : Int) > 60 := by omega
  go_wp2_with fail
  go_roundw
  case rel => exact .inr ⟨by go_num, HB10, Lib.hid ⟨h60, HSm.out⟩⟩
  case measure => simp [intOf]
theorem wsh_res {W : World} {tmps : Array Value} : (results Tryz.f5 tmps).run Tryz.prog W = .ok (tmps.getD 2 undef) W := by
  simp [results, Tryz.results5, go_sem]
set_option maxRecDepth 10000 in
theorem short_c (cs : List Chg) (v : Value) (w : World) (hv : IsChgs w v cs) (hnm : NmsIn w cs) (hn4 : cs.length ≤ 1048576) :
    Calls Tryz.prog 5 #[v] w fun e w' => ∃ b, e = .returned (.bool b) ∧ (b = true → cs.length ≤ 8 ∧ ∀ c ∈ cs, SmC c) ∧ Below w.heap.size w w' := by
  have HV := Lib.hid (versions_c cs v w hv hn4)
  have HF := Lib.hid hnm
  have H4 := Lib.hid hn4
  clear hv hnm hn4
  go_enter Tryz.func5, Tryz.ntmps5
  go_wp2_with fail
  go_at_call 15
  refine HV.out.mono ?_
  rintro e W1 ⟨v1, rfl, hv1, hb1⟩
  have HV1 := Lib.hid hv1
  have HB1 := Lib.hid hb1
  clear hv1 hb1 HV
  go_wp2_with fail
  go_at_call 14
  refine (fewV_c cs v1 W1 HV1.out (fun c hc => ⟨names_below (HF.out c hc).1 HB1.out, (HF.out c hc).2⟩) H4.out).mono ?_
  rintro e W2 ⟨b, rfl, hb, hb2⟩
  have HB := Lib.hid hb
  have HB2 := Lib.hid (HB1.out.trans (hb2.mono HB1.out.size))
  clear hb hb2
  go_wp2_with fail
  refine bodyPost_ret wsh_res (by rfl) ⟨_, rfl, HB.out, HB2.out⟩
end Go.Proofs.YtckocgkndbdhcaaGreatDoor
