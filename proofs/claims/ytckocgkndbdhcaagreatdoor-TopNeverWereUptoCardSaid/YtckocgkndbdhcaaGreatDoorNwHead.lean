/-
  The law's own run: w11Lists answers true.
-/
import Derived.Test.YtckocgkndbdhcaaGreatDoorNwName1
import Derived.Test.YtckocgkndbdhcaaGreatDoorNwSame
import Derived.Test.YtckocgkndbdhcaaGreatDoorNwSum
namespace Go.Cz.Nw
open Go.Cz.Lx
def hdC (v1 v2 v3 : Value) : List Chg := [⟨1, [101], [101], v1, [⟨1, [[97]]⟩], 5⟩, ⟨1, [102], [102], v2, [⟨1, [[98]]⟩], 6⟩, ⟨3, [101], [101], v3, [⟨1, [[99]]⟩], 0⟩, ⟨2, [102], [], .slice none 0 0, [], 9⟩, ⟨4, [101], [], .slice none 0 0, [], 0⟩]
def hdL (v2 v3 : Value) : List Lst := [⟨[101], v3, [⟨1, [[99]]⟩], 5, -1, true⟩, ⟨[102], v2, [⟨1, [[98]]⟩], 6, 9, false⟩]
theorem hd_run (v1 v2 v3 : Value) : runE [] (hdC v1 v2 v3) = [0, 0, 0, 0, 0] := by kernel_rfl
theorem hd_list (v1 v2 v3 : Value) : runL [] (hdC v1 v2 v3) = hdL v2 v3 := by kernel_rfl
theorem hd_8 (v2 v3 : Value) : standL 8 (hdL v2 v3) = [⟨[102], v2, [⟨1, [[98]]⟩], 6, 9, false⟩] := by kernel_rfl
theorem hd_9 (v2 v3 : Value) : standL 9 (hdL v2 v3) = [] := by kernel_rfl
theorem hd_5 (v2 v3 : Value) : standL 5 (hdL v2 v3) = [] := by kernel_rfl
end Go.Cz.Nw
namespace Go.Proofs.YtckocgkndbdhcaaGreatDoor
open Go.RowKit Go.Cz Go.Cz.Nw Go.Cz.Lx Go.ChangeMaps
set_option linter.unusedSimpArgs false
set_option linter.unusedVariables false
attribute [local go_sem] bs_size bs_extract bs_append bs_toList
attribute [local irreducible] cList cPlan
theorem no_names (w : World) : IsNames w (.slice none 0 0) [] := ⟨none, 0, rfl, fun j n h => by simp at h⟩
theorem ChgOk.mk1 {c : Chg} (h1 : c.id.length ≤ 60) (h2 : c.eid.length ≤ 60) (h3 : ∀ n ∈ c.ns, SmN n) : ChgOk c := ⟨by omega, by omega, fun n hn => ⟨by have := (h3 n hn).1; omega, fun x hx => by have := (h3 n hn).2 x hx; omega⟩⟩
theorem hd_ok (v1 v2 v3 : Value) : ∀ c ∈ hdC v1 v2 v3, ChgOk c := by
  intro c hc
  simp only [hdC, List.mem_cons, List.not_mem_nil, or_false] at hc
  rcases hc with rfl | rfl | rfl | rfl | rfl <;> exact ChgOk.mk1 (by simp) (by simp) (by simp [SmN])
def hdA (v1 v2 v3 : Value) : Array Value := #[.int .i64 1, .string (bs [101]), .string (bs [101]), v1, .int .i64 5, .int .i64 1, .string (bs [102]), .string (bs [102]), v2, .int .i64 6, .int .i64 3, .string (bs [101]), .string (bs [101]), v3, .int .i64 0, .int .i64 2, .string (bs [102]), .string (bs []), .slice none 0 0, .int .i64 9, .int .i64 4, .string (bs [101]), .string (bs []), .slice none 0 0, .int .i64 0]
theorem hd_is {w : World} {b : Nat} {v1 v2 v3 : Value} (hk : Bk w b (hdA v1 v2 v3) 29) (h1 : IsNames w v1 [⟨1, [[97]]⟩]) (h2 : IsNames w v2 [⟨1, [[98]]⟩]) (h3 : IsNames w v3 [⟨1, [[99]]⟩]) : IsChgs w (.slice (some ⟨b, 0, none⟩) 5 5) (hdC v1 v2 v3) := by
  refine ⟨some ⟨b, 0, none⟩, 5, rfl, fun j c hc => ?_⟩
  match j, hc with
  | 0, hc => cases hc; exact ⟨b, 0, rfl, hk.lt, by rw [hk.cell]; rfl, by rw [hk.cell]; rfl, by rw [hk.cell]; rfl, by rw [hk.cell]; rfl, by rw [hk.cell]; rfl, h1⟩
  | 1, hc => cases hc; exact ⟨b, 0, rfl, hk.lt, by rw [hk.cell]; rfl, by rw [hk.cell]; rfl, by rw [hk.cell]; rfl, by rw [hk.cell]; rfl, by rw [hk.cell]; rfl, h2⟩
  | 2, hc => cases hc; exact ⟨b, 0, rfl, hk.lt, by rw [hk.cell]; rfl, by rw [hk.cell]; rfl, by rw [hk.cell]; rfl, by rw [hk.cell]; rfl, by rw [hk.cell]; rfl, h3⟩
  | 3, hc => cases hc; exact ⟨b, 0, rfl, hk.lt, by rw [hk.cell]; rfl, by rw [hk.cell]; rfl, by rw [hk.cell]; rfl, by rw [hk.cell]; rfl, by rw [hk.cell]; rfl, no_names w⟩
  | 4, hc => cases hc; exact ⟨b, 0, rfl, hk.lt, by rw [hk.cell]; rfl, by rw [hk.cell]; rfl, by rw [hk.cell]; rfl, by rw [hk.cell]; rfl, by rw [hk.cell]; rfl, no_names w⟩
  | j + 5, hc => simp [hdC] at hc
theorem hd_lok {w : World} {v1 v2 v3 : Value} (h1 : IsNames w v1 [⟨1, [[97]]⟩]) (h2 : IsNames w v2 [⟨1, [[98]]⟩]) (h3 : IsNames w v3 [⟨1, [[99]]⟩]) : ListOk w (hdL v2 v3) := by
  rw [← hd_list v1]
  refine (runL_ok _ [] (listok_nil w) (by simp [hdC]) fun c hc => ⟨hd_ok _ _ _ c hc, ?_⟩).1
  simp only [hdC, List.mem_cons, List.not_mem_nil, or_false] at hc
  rcases hc with rfl | rfl | rfl | rfl | rfl
  · exact h1
  · exact h2
  · exact h3
  · exact no_names w
  · exact no_names w
theorem hd_res {W : World} {tmps : Array Value} : (results Tryz.f4 tmps).run Tryz.prog W = .ok (tmps.getD 0 undef) W := by
  simp [results, Tryz.results4, go_sem]
set_option maxRecDepth 100000 in
set_option maxHeartbeats 4000000 in
theorem head_c (w : World) (hs : Std w) (ht : Tz w) : Calls Tryz.prog 4 #[] w fun e w' => e = .returned (.bool true) ∧ Below w.heap.size w w' := by
  have HS := Lib.hid hs
  have HT := Lib.hid ht
  clear hs ht
  go_enter Tryz.func4, Tryz.ntmps4
  go_wp2_with fail
  go_at_call 9
  refine (add_c [101] [97] 5 w).mono ?_
  rintro e W1 ⟨g1, rfl, hb1, hn1⟩
  have HB1 := Lib.hid hb1
  have HN1 := Lib.hid hn1
  clear hb1 hn1
  go_wp2_with fail
  go_at_call 9
  refine (add_c [102] [98] 6 W1).mono ?_
  rintro e W2 ⟨g2, rfl, hb2, hn2⟩
  have HB2 := Lib.hid (HB1.out.trans (hb2.mono HB1.out.size))
  have HN2 := Lib.hid hn2
  replace HN1 := Lib.hid (names_below HN1.out hb2)
  clear hb2 hn2 HB1
  go_wp2_with fail
  go_at_call 10
  refine (name_c [99] W2).mono ?_
  rintro e W3 ⟨g3, rfl, hb3, -, hn3⟩
  have HB3 := Lib.hid (HB2.out.trans (hb3.mono HB2.out.size))
  replace HN1 := Lib.hid (names_below HN1.out hb3)
  replace HN2 := Lib.hid (names_below HN2.out hb3)
  have HN3 := Lib.hid hn3
  clear hb3 hn3 HB2
  go_wp2_with fail
  obtain ⟨W4, hW4⟩ : ∃ W, W = W3.alloc (.cells #[.int .i64 1, .slice (some ⟨g3, 0, none⟩) 1 1] 41) := ⟨_, rfl⟩
  obtain ⟨g4, hg4⟩ : ∃ x, x = W3.heap.size := ⟨_, rfl⟩
  have hb4 : Below W3.heap.size W3 W4 := by rw [hW4]; exact (Below.refl _ _).alloc (Nat.le_refl _) _
  have hk4 : Bk W4 g4 #[.int .i64 1, .slice (some ⟨g3, 0, none⟩) 1 1] 41 := by rw [hW4, hg4]; exact Bk.new _ _ _
  have hs4 : W3.heap.size + 1 = W4.heap.size := by rw [hW4, alloc_size1]
  have hn4 : IsNames W4 (.slice (some ⟨g4, 0, none⟩) 1 1) [⟨1, [[99]]⟩] := one_names (by rw [hk4.cell]; rfl) (by rw [hk4.cell]; rfl) (old_cell hb4 HN3.out)
  rw [← hW4, hs4, ← hg4]
  obtain ⟨g5, hg5⟩ : ∃ x, x = W4.heap.size := ⟨_, rfl⟩
  obtain ⟨W5, hW5⟩ : ∃ W, W = W4.alloc (.cells (hdA (.slice (some ⟨g1, 0, none⟩) 1 1) (.slice (some ⟨g2, 0, none⟩) 1 1) (.slice (some ⟨g4, 0, none⟩) 1 1)) 29) := ⟨_, rfl⟩
  have hb5 : Below W3.heap.size W3 W5 := by rw [hW5]; exact hb4.alloc hb4.size _
  have hb45 : Below W4.heap.size W4 W5 := by rw [hW5]; exact (Below.refl _ _).alloc (Nat.le_refl _) _
  have hk5 : Bk W5 g5 (hdA (.slice (some ⟨g1, 0, none⟩) 1 1) (.slice (some ⟨g2, 0, none⟩) 1 1) (.slice (some ⟨g4, 0, none⟩) 1 1)) 29 := by rw [hW5, hg5]; exact Bk.new _ _ _
  have hn1 := names_below HN1.out hb5
  have hn2 := names_below HN2.out hb5
  have hn3 := names_below hn4 hb45
  have hb := HB3.out.trans (hb5.mono HB3.out.size)
  have hst := HS.out.below hb
  have HR := Lib.hid (Run_c _ _ W5 hst (hd_is hk5 hn1 hn2 hn3) (hd_ok _ _ _) (by simp [hdC]))
  have HL := Lib.hid (hd_lok hn1 hn2 hn3)
  have HB := Lib.hid hb
  rw [← hg5]
  change Calls _ _ _ (W4.alloc (.cells (hdA (.slice (some ⟨g1, 0, none⟩) 1 1) (.slice (some ⟨g2, 0, none⟩) 1 1) (.slice (some ⟨g4, 0, none⟩) 1 1)) 29)) _
  rw [← hW5]
  obtain ⟨u2, hu2⟩ : ∃ u : Value, u = .slice (some ⟨g2, 0, none⟩) 1 1 := ⟨_, rfl⟩
  obtain ⟨u3, hu3⟩ : ∃ u : Value, u = .slice (some ⟨g4, 0, none⟩) 1 1 := ⟨_, rfl⟩
  rw [← hu2, ← hu3] at HR HL
  clear hW4 hg4 hb4 hk4 hs4 hn4 hg5 hW5 hb5 hb45 hk5 hn1 hn2 hn3 hb hst HN1 HN2 HN3 HB3 hu2 hu3
  refine HR.out.mono ?_
  clear HR
  rintro e W6 ⟨v1, v2, rfl, ho⟩
  rw [hd_run, hd_list] at ho
  replace ho : Owns W5 W6 [rowP 57 5 v1 2 (lss (hdL u2 u3)), rowP 34 1 v2 5 (ecs [0, 0, 0, 0, 0])] := ho
  obtain ⟨y1, c1, hv1⟩ := row_form ho.row
  subst hv1
  obtain ⟨y2, c2, hv2⟩ := row_form ho.pop.row
  subst hv2
  obtain ⟨g7, hg7⟩ : ∃ x, x = W6.heap.size := ⟨_, rfl⟩
  obtain ⟨W7, hW7⟩ : ∃ W, W = W6.alloc (.cells #[.int .i64 0, .int .i64 0, .int .i64 0, .int .i64 0, .int .i64 0] 34) := ⟨_, rfl⟩
  have ho7 := ho.rowLit (e := 34) (size := 1) (n := 5) [.int .i64 0, .int .i64 0, .int .i64 0, .int .i64 0, .int .i64 0] (by decide) (by rfl)
  have hq7 : Owns W5 W7 [rowP 34 1 (.slice (some ⟨g7, 0, none⟩) 5 5) 5 [.int .i64 0, .int .i64 0, .int .i64 0, .int .i64 0, .int .i64 0], rowP 57 5 (.slice y1 2 c1) 2 (lss (hdL u2 u3)), rowP 34 1 (.slice y2 5 c2) 5 (ecs [0, 0, 0, 0, 0])] := by rw [hW7, hg7]; exact ho7
  have HO := Lib.hid hq7
  have HW7 := Lib.hid hW7
  have Hg7 := Lib.hid hg7
  clear ho ho7 hq7 hW7 hg7
  go_wp2_with fail
  rw [← HW7.out, ← Hg7.out]
  clear HW7 Hg7
  go_at_call 11
  have hr1 : W7.ownsRow 0 34 1 (.slice y2 5 c2) 5 (ecs [0, 0, 0, 0, 0]) := HO.out.pop.pop.row
  have hr2 : W7.ownsRow 0 34 1 (.slice (some ⟨g7, 0, none⟩) 5 5) 5 (ecs [0, 0, 0, 0, 0]) := HO.out.row
  have HE := Lib.hid (Errors_c [0, 0, 0, 0, 0] (.slice y2 5 c2) (.slice (some ⟨g7, 0, none⟩) 5 5) W7 hr1 hr2 (by decide))
  clear hr1 hr2
  refine HE.out.mono ?_
  clear HE
  rintro e W8 ⟨rfl, hb8⟩
  have ho8 := (HO.out.below hb8).pop
  have HB8 := Lib.hid (HB.out.trans (ho8.base.mono HB.out.size))
  have HL8 := Lib.hid (listok_below HL.out ho8.base)
  replace HO := Lib.hid ho8
  clear ho8 hb8 HB HL
  go_wp2_with fail
  go_at_call 7
  have HA := Lib.hid (At_c (hdL u2 u3) (.slice y1 2 c1) 8 W8 (HS.out.below HB8.out) HO.out.row HL8.out)
  refine HA.out.mono ?_
  rintro e W9 ⟨v9, rfl, ho9⟩
  clear HA
  rw [hd_8] at ho9
  replace ho9 : Owns W8 W9 [rowP 27 2 v9 1 (ens [⟨[102], u2, [⟨1, [[98]]⟩], 6, 9, false⟩])] := ho9
  obtain ⟨y9, c9, hv9⟩ := row_form ho9.row
  subst hv9
  obtain ⟨g9, c9', e9, -, -, hg9, -, hc9⟩ := row_at ho9.row (by simp)
  cases e9
  have d9 : W9.cell? ⟨g9, 0, none⟩ = some (.string (bs [102])) := hc9 0 _ (by rfl)
  have HB9 := Lib.hid (HB8.out.trans (ho9.base.mono HB8.out.size))
  have HL9 := Lib.hid (listok_below HL8.out ho9.base)
  replace HO := Lib.hid (HO.out.below ho9.base)
  clear ho9 hc9 HL8
  go_wp2_with fail
  go_at_call 7
  have HA := Lib.hid (At_c (hdL u2 u3) (.slice y1 2 c1) 9 W9 (HS.out.below HB9.out) HO.out.row HL9.out)
  refine HA.out.mono ?_
  rintro e W10 ⟨v10, rfl, ho10⟩
  clear HA d9 hg9
  rw [hd_9] at ho10
  replace ho10 : Owns W9 W10 [rowP 27 2 v10 0 (ens [])] := ho10
  obtain ⟨y10, c10, hv10⟩ := row_form ho10.row
  subst hv10
  have HB10 := Lib.hid (HB9.out.trans (ho10.base.mono HB9.out.size))
  have HL10 := Lib.hid (listok_below HL9.out ho10.base)
  replace HO := Lib.hid (HO.out.below ho10.base)
  clear ho10 HL9 HB9
  go_wp2_with fail
  go_at_call 7
  have HA := Lib.hid (At_c (hdL u2 u3) (.slice y1 2 c1) 5 W10 (HS.out.below HB10.out) HO.out.row HL10.out)
  refine HA.out.mono ?_
  rintro e W11 ⟨v11, rfl, ho11⟩
  clear HA
  rw [hd_5] at ho11
  replace ho11 : Owns W10 W11 [rowP 27 2 v11 0 (ens [])] := ho11
  obtain ⟨y11, c11, hv11⟩ := row_form ho11.row
  subst hv11
  have HB11 := Lib.hid (HB10.out.trans (ho11.base.mono HB10.out.size))
  clear ho11 HL10 HO HB10
  go_wp2_with fail
  go_at_call 13
  refine (Sum0_c W11 (HT.out.below HB11.out)).mono ?_
  rintro e W12 ⟨rfl, hb12⟩
  have HB12 := Lib.hid (HB11.out.trans (hb12.mono HB11.out.size))
  clear hb12 HB11
  go_wp2_with fail
  go_at_call 12
  refine (Is0_c W12).mono ?_
  rintro e W13 ⟨rfl, hb13⟩
  have HB13 := Lib.hid (HB12.out.trans (hb13.mono HB12.out.size))
  clear hb13 HB12
  go_wp2_with fail
  refine bodyPost_ret hd_res (by rfl) ⟨rfl, HB13.out⟩
end Go.Proofs.YtckocgkndbdhcaaGreatDoor
