-- Made by wip/pr.py out of the translation (a turned copy of the kit's print; contracts by hand where said).
import Derived.Test.YtdhckibkljafgaaGreatDoorPIx0
import Derived.Test.YtdhckibkljafgaaGreatDoorPIx4
import Derived.Test.YtdhckibkljafgaaGreatDoorPIx6
import Derived.Test.YtdhckibkljafgaaGreatDoorPIx7
namespace Go.Proofs.YtdhckibkljafgaaGreatDoor.PI
open Go.RowKit Go.Proofs.YtdhckibkljafgaaGreatDoorW.PrintWords Go.Proofs.YtdhckibkljafgaaGreatDoorW.PrintLast Go.Proofs.YtdhckibkljafgaaGreatDoorW.PrintMore
-- shrunk
attribute [local go_sem] max2_int min2_int max_two min_two max_three min_three max_four min_four   -- for this text's walks alone
set_option linter.unusedVariables false
set_option linter.unusedSimpArgs false

/-! ### conf_reserved: function 81 -/
-- BY HAND
theorem grown_drewN_ (w : World) (n : Nat) (row : Option Nat) : w.grownBy (w.drewN n) row := ⟨rfl, rfl, rfl, Nat.le_refl _, fun _ _ _ => rfl⟩
theorem dropRes (l0 : List S81) (i : Int) (h0 : 0 ≤ i) (h1 : i < l0.length) : l0.drop i.toNat = rd_T81 l0 i :: l0.drop (i.toNat + 1) ∧ l0.take (i.toNat + 1) = l0.take i.toNat ++ [rd_T81 l0 i] := by
 have h : i.toNat < l0.length := by omega
 have e : rd_T81 l0 i = l0[i.toNat] := by
  unfold rd_T81
  rw [List.getD_eq_getElem?_getD, List.getElem?_eq_getElem h]
  rfl
 rw [e, List.drop_eq_getElem_cons h, List.take_succ_eq_append_getElem h]
 exact ⟨rfl, rfl⟩
set_option maxHeartbeats 8000000 in
set_option maxRecDepth 100000 in
theorem conf_reserved.calls (g : Nat) (a b : Int) (A0 : Option Addr) (c0 : Nat) (l0 : List S81) (w : World) (ha : w.cell? ⟨g, 0, none⟩ = some (.int .i64 a)) (hb : w.cell? ⟨g, 1, none⟩ = some (.int .i64 b)) (hl : w.cell? ⟨g, 3, none⟩ = some (.slice A0 l0.length c0)) (h2 : 2 ≤ a ∧ b ≤ 254) (hr0 : Kd.C k81 w A0 l0.length l0) (hs : l0.length ≤ 5864062014805) :
  Calls Tryz.prog 81 #[.pointer (some ⟨g, 0, none⟩)] w fun e w' => e = .returned (.bool (reservedB a b l0)) ∧ Below w.heap.size w w' := by
 have HR0 := am_ hr0
 have HA := am_ ha
 have HB1 := am_ hb
 have H2 := am_ h2
 have e4 := goRes_nil a b l0
 replace e4 := am_ e4
 obtain ⟨r, hr⟩ : ∃ r, reservedB a b l0 = r := ⟨_, rfl⟩
 rw [hr] at e4 ⊢
 clear hr0 ha hb hr h2
 have hl1 : (w.alloc (.map #[] 0)).cell? ⟨g, 3, none⟩ = some (.slice A0 l0.length c0) := (((Below.refl w.heap.size w).alloc (Nat.le_refl _) _).cell (wb_ w _ hl)).trans hl
 have hmm := @run_makeMap Tryz.prog
 go_enter Tryz.func81, Tryz.ntmps81
 go_wp2
 clear hmm
 go_loopg [3, 13] l0.length (fun d v3 v9 w' => ∃ (i : Int) (cs : List (List UInt8)), 0 ≤ i ∧ i.toNat + d = l0.length ∧ v9 = .int .i64 i ∧ Aside0 (w'.ownsMap Tryz.prog 9 (plainElem (H := Unit) Tryz.prog 4) w.heap.size i.toNat (mapD .string cs)) ∧ Aside0 (Kd.R (Kd.int .i64) 3 w' w.heap.size (fun k => k ≠ w.heap.size) v3 ((l0.take i.toNat).map fun x => x.f1)) ∧ Aside0 (Below w.heap.size w w') ∧ Aside0 (goRes [] l0 = goRes cs (l0.drop i.toNat)))
 case atStart => exact ⟨0, [], by omega, by simp, rfl, ⟨World.ownsMap_made _ _ _ _⟩, ⟨Kd.R_nil _ _ _ _ _⟩, ⟨(Below.refl _ _).alloc (Nat.le_refl _) _⟩, ⟨rfl⟩⟩
 case round =>
  obtain ⟨i, cs, hi0, hd, rfl, HM, HV, HB, HS⟩ := hrel
  by_cases hlt : i < (l0.length : Int)
  ·obtain ⟨ad, e1, hx0, hx1⟩ := at_T81 HR0.out i hi0 hlt
   cases e1
   replace hx0 := (HB.out.cell (wb_ w _ hx0)).trans hx0
   replace hx1 := (HB.out.cell (wb_ w _ hx1)).trans hx1
   have HD := HS.out
   obtain ⟨hd1, hd2⟩ := dropRes l0 i hi0 hlt
   rw [hd1] at HD
   have HT := am_ hd2
   clear HS hd1 hd2
   generalize rd_T81 l0 i = x at hx0 hx1 HD HT
   obtain ⟨s, ho⟩ := x
   simp only at hx0 hx1
   replace HD := am_ HD
   have fin : ¬ (clientB s = true ∧ s.data.toList ∉ cs) → false = r := fun e => by
    rw [← e4.out, HD.out]
    unfold goRes
    rw [if_neg e]
    rfl
   replace fin := am_ fin
   cases q1 : clientB s with
   | false =>
    replace q1 := am_ q1
    go_wp2_with (first | (go_at_call 62; (with_reducible refine (ident_May_c.calls s false _ (by unfold ident_May_c.f; rw [q1.out])).mono ?_); rintro e w3 ⟨rfl, ⟨nd, rfl⟩⟩))
    go_ret
    exact ⟨ret_bool (fin.out (fun e => by rw [q1.out] at e; cases e.1)), by repeat (with_reducible first | exact HB.out | apply p3_ | apply p1_ | apply p2_)⟩
   | true =>
    have hsz : s.size ≤ maxLen := by
     unfold clientB at q1
     rw [decide_eq_true_eq] at q1
     unfold maxLen
     omega
    replace q1 := am_ q1
    have hkey := WideMaps.keyOf_string_mk Tryz.underlying9 hsz
    obtain ⟨b3, hb3⟩ : ∃ b3 : Bool, (b3 = true ↔ s.data.toList ∈ cs) := ⟨decide _, decide_eq_true_iff⟩
    have HL : ∀ W, (W.ownsMap Tryz.prog 9 (plainElem (H := Unit) Tryz.prog 4) w.heap.size i.toNat (mapD .string cs)) → (Instr.lookup 111 (.map (some w.heap.size)) (.string s) false).run Tryz.prog W = .ok (.bool b3) W := fun W h => setLook Lit.string (fun _ => trivial) (fun _ _ e => by injection e) (Maps.string_keyed Tryz.underlying9) Tryz.underlying111 Tryz.underlying4 (by kernel_rfl) h hkey hb3
    replace HL := am_ HL
    replace hb3 := am_ hb3
    replace hkey := am_ hkey
    have HN : s.data.toList ∉ cs → goRes [] l0 = goRes (cs ++ [s.data.toList]) (l0.drop (i.toNat + 1)) := fun e => by
     rw [HD.out]
     conv => lhs; unfold goRes
     rw [if_pos ⟨q1.out, e⟩]
    replace HN := am_ HN
    have hlen : ((l0.take i.toNat).map fun x => x.f1).length = i.toNat := by
     rw [List.length_map, List.length_take]
     omega
    replace hlen := am_ hlen
    clear HD
    cases b3 with
    | true =>
     have hin := am_ (hb3.out.1 rfl)
     go_wp2_with (first | (go_at_call 62; (with_reducible refine (ident_May_c.calls s true _ (by unfold ident_May_c.f; rw [q1.out])).mono ?_); rintro e w3 ⟨rfl, ⟨nd, rfl⟩⟩; have hlook := HL.out _ ((HM.out.alloc (.cells #[.string s, .int .i64 ho] 81)).kept (grown_drewN_ _ nd none) (by simp))))
     go_ret
     exact ⟨ret_bool (fin.out (fun e => e.2 hin.out)), by repeat (with_reducible first | exact HB.out | apply p3_ | apply p1_ | apply p2_)⟩
    | false =>
     have hnot : s.data.toList ∉ cs := fun e => by cases hb3.out.2 e
     replace hnot := am_ hnot
     go_wp2_with (first
      | (go_at_call 62; (with_reducible refine (ident_May_c.calls s true _ (by unfold ident_May_c.f; rw [q1.out])).mono ?_); rintro e w3 ⟨rfl, ⟨nd, rfl⟩⟩; have hown := ((HM.out.alloc (.cells #[.string s, .int .i64 ho] 81)).kept (grown_drewN_ _ nd none) (by simp)); have hlook := HL.out _ hown; have HO := am_ hown; clear hown; have HBW := am_ (show Below wr.heap.size wr _ from p1_ (p3_ (Below.refl _ _) (.cells #[.string s, .int .i64 ho] 81)) nd); have HBx := am_ (show ((wr.alloc (.cells #[.string s, .int .i64 ho] 81)).drewN nd).heap[wr.heap.size]? = some (.cells #[.string s, .int .i64 ho] 81) from blk_new _ _))
      | (at_mapUpdate; refine wpList_mapUpdate_own _ rfl _ _ _ 111 rfl 9 4 (Maps.string_keyed Tryz.underlying9) Tryz.underlying111 _ w.heap.size i.toNat _ rfl HO.out (by unfold maxLen; omega) _ _ _ rfl rfl hkey.out _ [] (plainElem_bool Tryz.underlying4 true) ?_; intro w1 hown1 hgrow1; have HG1 := am_ hgrow1; have HB2 := am_ ((bt_ HB.out HBW.out).grown hgrow1 (bt_ HB.out HBW.out).size (fun j hj => by cases hj; exact Nat.le_refl _)); have HO1 := am_ hown1; have k1 := kept_g (g := wr.heap.size) hgrow1 (by first | (simp; done) | (simp; omega)) (by intro e; have := HM.out.lt; have := e5_ e; omega); clear hown1 hgrow1)
      | (at_builtin; refine Kd.R_append (Kd.int .i64) (w0 := w) w.heap.size rfl (.tmp 30) (.tmp 33) 22 3 (.int .i64 0) 8 rfl Tryz.underlying22 info3 rfl (by decide) (by omega) u3 ((l0.take i.toNat).map fun x => x.f1) ho [.int .i64 ho] (fun k => k ≠ w.heap.size) (fun _ => False) rfl rfl ?aP (fun _ hk => hk.elim) ?aF ?aO ?aB ?aS ?aL ?_; (case aP => exact rfl); (case aF => exact fun k hk e => by have h1 := HO1.out.lt; omega); (case aO => exact Kd.R_grown (Kd.R_below HV.out HBW.out) HG1.out (fun k hk e => hk (e5_ e))); (case aB => exact HB2.out); (case aS => exact HB2.out.size); (case aL => rw [hlen.out]; omega); intro v1 w3 hov hb hg hat; have HOV := am_ hov; have HBV := am_ hb; have HMV := am_ (HO1.out.kept hg (fun e => (Kd.R_grown (Kd.R_below HV.out HBW.out) HG1.out (fun k hk e => hk (e5_ e))).1 _ e.symm rfl)); clear hov hb hg hat))
     go_roundg (l0.length - (i.toNat + 1))
     case measure => first | omega | (simp; omega)
     case rel =>
      have e2 : (i + 1).toNat = i.toNat + 1 := by omega
      refine ⟨i + 1, cs ++ [s.data.toList], by omega, by omega, by go_num, ⟨?_⟩, ⟨?_⟩, ⟨HBV.out⟩, ⟨?_⟩⟩
      ·rw [mapD_snoc, e2]
       exact HMV.out
      ·rw [e2, HT.out, List.map_append]
       exact HOV.out
      ·rw [e2]
       exact HN.out hnot.out
  ·have e3 : l0.drop i.toNat = [] := List.drop_eq_nil_of_le (by omega)
   have e5 : (l0.take i.toNat).map (fun x => x.f1) = l0.map (fun x => x.f1) := by rw [List.take_of_length_le (by omega)]
   have HE := am_ (show goRes [] l0 = true by rw [HS.out, e3]; rfl)
   have HV' := HV.out
   rw [e5] at HV'
   have e6 : (l0.map (fun x => x.f1)).length ≤ 140737488351232 := by rw [List.length_map]; omega
   generalize l0.map (fun x => x.f1) = hs at HV' e4 e6
   obtain ⟨A1, c1, rfl, hc1, hC1⟩ := Kd.R_reads HV'
   have HC1 := am_ hC1
   replace e6 := am_ e6
   have ha := (HB.out.cell (wb_ w _ HA.out)).trans HA.out
   have hb := (HB.out.cell (wb_ w _ HB1.out)).trans HB1.out
   have HH := am_ (conf_hosts.calls g a b A1 c1 hs 4 wr ha hb H2.out HC1.out e6.out)
   clear HS e3 e5 HV' hC1 ha hb
   go_wp2_with (first | (go_at_call 80; (with_reducible refine HH.out.mono ?_); rintro e w3 ⟨rfl, hb3⟩))
   go_ret
   refine ⟨ret_bool ?_, bt_ HB.out hb3⟩
   rw [← e4.out, HE.out, Bool.true_and]

/-! ### rr_word: function 101 -/
def rr_word.f (a0 : Int) : Option (Bool) := if a0 ≥ 0 then (some (decide (a0 ≤ 4294967295))) else (some false)
set_option maxHeartbeats 8000000 in
set_option maxRecDepth 100000 in
theorem rr_word.calls (a0 : Int) (r : Bool) (w : World) (h : rr_word.f a0 = some r) :
  Calls Tryz.prog 101 #[.int .i64 a0] w fun e w' => e = .returned (.bool r) ∧ Drawn0 w w' := by
 have H : (if a0 ≥ 0 then (some (decide (a0 ≤ 4294967295))) else (some false)) = some r := h
 clear h
 by_cases c2 : a0 ≥ 0
 ·rw [if_pos c2] at H
  have c2b0 : decide (0 ≤ a0) = true := decide_eq_true c2
  clear c2
  obtain rfl := e5_ H
  go_enter Tryz.func101, Tryz.ntmps101
  go_wp2
  go_ret
  exact ⟨by first | rfl | (simp; done) | (simp [*]; done), by repeat (first | exact Drawn0.refl _ | apply Drawn0.step)⟩
 rw [if_neg c2] at H
 have c2b0 : decide (0 ≤ a0) = false := decide_eq_false c2
 clear c2
 obtain rfl := e5_ H
 go_enter Tryz.func101, Tryz.ntmps101
 go_wp2
 go_ret
 exact ⟨by first | rfl | (simp; done) | (simp [*]; done), by repeat (first | exact Drawn0.refl _ | apply Drawn0.step)⟩

/-! ### rr_word_c: function 101 -/
def rr_word_c.f (a0 : Int) : Option Bool := some (wordB a0)
theorem rr_word_c.calls (a0 : Int) (r : Bool) (w : World) (h : rr_word_c.f a0 = some r) :
  Calls Tryz.prog 101 #[.int .i64 a0] w fun e w' => e = .returned (.bool r) ∧ Drawn0 w w' := by
 refine rr_word.calls a0 r w ?_
 rw [← h]
 unfold rr_word.f rr_word_c.f wordB
 by_cases q : a0 ≥ 0
 ·rw [if_pos q]
  congr 1
  rw [Bool.eq_iff_iff, decide_eq_true_eq, decide_eq_true_eq]
  omega
 ·rw [if_neg q]
  congr 1
  symm
  rw [decide_eq_false_iff_not]
  omega

/-! ### rr_May: function 93 -/
-- BY HAND
def rr_May.f (a0_0 : ByteArray) (a0_1 : Int) (a0_2 : Int) (a0_3 : Int) (a0_4 : ByteArray) (a0_5 : ByteArray) (a0_6 : Int) : Option Bool := if a0_0.size ≤ 140737488351232 ∧ a0_4.size ≤ 140737488351232 ∧ (a0_1 = 1 ∨ a0_1 = 5 ∨ a0_1 = 16) then some (rrB a0_0 a0_1 a0_2 a0_3 a0_4 a0_5 a0_6) else none
set_option maxHeartbeats 8000000 in
set_option maxRecDepth 100000 in
theorem rr_May.calls (a0_0 : ByteArray) (a0_1 : Int) (a0_2 : Int) (a0_3 : Int) (a0_4 : ByteArray) (a0_5 : ByteArray) (a0_6 : Int) (r : Bool) (w : World) (h : rr_May.f a0_0 a0_1 a0_2 a0_3 a0_4 a0_5 a0_6 = some r) :
  Calls Tryz.prog 93 #[.agg #[.string a0_0, .int .i64 a0_1, .int .i64 a0_2, .int .i64 a0_3, .string a0_4, .string a0_5, .int .i64 a0_6]] w fun e w' => e = .returned (.bool r) ∧ Below w.heap.size w w' := by
 unfold rr_May.f at h
 by_cases hs : a0_0.size ≤ 140737488351232 ∧ a0_4.size ≤ 140737488351232 ∧ (a0_1 = 1 ∨ a0_1 = 5 ∨ a0_1 = 16)
 rotate_left
 ·rw [if_neg hs] at h
  cases h
 rw [if_pos hs] at h
 have HR := am_ (e5_ h)
 obtain ⟨n0, h0⟩ : ∃ b, nameB (bytesOf a0_0) = b := ⟨_, rfl⟩
 obtain ⟨n4, h4⟩ : ∃ b, nameB (bytesOf a0_4) = b := ⟨_, rfl⟩
 have C0 := am_ (fun W => name_May_c.calls a0_0 n0 W (by unfold name_May_c.f; rw [if_pos (by have := hs.1; omega), h0]))
 have C4 := am_ (fun W => name_May_c.calls a0_4 n4 W (by unfold name_May_c.f; rw [if_pos (by have := hs.2.1; omega), h4]))
 have Cw := am_ (fun x W => rr_word_c.calls x (wordB x) W rfl)
 have H0 := am_ h0
 have H4 := am_ h4
 have T4 := am_ (show a0_4.toList = [] → n4 = true from fun e => by rw [← H4.out, show bytesOf a0_4 = [] from List.length_eq_zero_iff.1 (by rw [bytesOf_length]; exact (toList_nil _).1 e)]; rfl)
 have T5 := am_ (show a0_5.toList = [] → a0_5.size = 0 from fun e => (toList_nil _).1 e)
 have HB := am_ (Below.refl w.heap.size w)
 have hq := hs.2.2
 clear h hs h0 h4
 rcases hq with rfl | rfl | rfl
 all_goals
  go_enter Tryz.func93, Tryz.ntmps93
  go_wp2_with fail
  all_goals try go_region_with (first
   | fail
   | (go_at_call 78; (with_reducible refine (C4.out _).mono ?_); rintro e w2 ⟨rfl, ⟨nd, rfl⟩⟩)
   | (go_at_call 101; (with_reducible refine (Cw.out _ _).mono ?_); rintro e w3 ⟨rfl, ⟨nd, rfl⟩⟩))
  all_goals go_wp2_with (first
   | (go_at_call 78; (with_reducible refine (C0.out _).mono ?_); rintro e w2 ⟨rfl, ⟨nd, rfl⟩⟩))
  all_goals go_ret
  all_goals refine ⟨ret_bool ?_, ?_⟩
  all_goals first
   | ((repeat (with_reducible first | exact HB.out | apply p3_ | apply p1_ | apply p2_ | refine Below.setCell ?_ (by simp) _)); done)
   | (have e0 := H0.out; have e4 := H4.out; have t4 := T4.out; have t5 := T5.out; have w0 : wordB 0 = true := rfl; rw [← HR.out]; simp only [rrB, e0, e4]; clear HR C0 C4 Cw H0 H4; simp_all <;> omega)

/-! ### stringslite_HasSuffix: function 108 -/
def stringslite_HasSuffix.f (a0 : ByteArray) (a1 : ByteArray) : Option (Bool) := if (a0.size : Int) ≥ (a1.size : Int) then (if 0 ≤ (wrap64 ((a0.size : Int) - (a1.size : Int))) then (if (wrap64 ((a0.size : Int) - (a1.size : Int))) ≤ (a0.size : Int) then (some ((a0.extract ((wrap64 ((a0.size : Int) - (a1.size : Int))) : Int).toNat a0.size).toList == a1.toList)) else (none)) else (none)) else (some false)
set_option maxHeartbeats 8000000 in
set_option maxRecDepth 100000 in
theorem stringslite_HasSuffix.calls (a0 : ByteArray) (a1 : ByteArray) (r : Bool) (w : World) (h : stringslite_HasSuffix.f a0 a1 = some r) :
  Calls Tryz.prog 108 #[.string a0, .string a1] w fun e w' => e = .returned (.bool r) ∧ Drawn0 w w' := by
 have H : (if (a0.size : Int) ≥ (a1.size : Int) then (if 0 ≤ (wrap64 ((a0.size : Int) - (a1.size : Int))) then (if (wrap64 ((a0.size : Int) - (a1.size : Int))) ≤ (a0.size : Int) then (some ((a0.extract ((wrap64 ((a0.size : Int) - (a1.size : Int))) : Int).toNat a0.size).toList == a1.toList)) else (none)) else (none)) else (some false)) = some r := h
 clear h
 by_cases c3 : (a0.size : Int) ≥ (a1.size : Int)
 ·rw [if_pos c3] at H
  have c3b0 : decide ((a1.size : Int) ≤ (a0.size : Int)) = true := decide_eq_true c3
  have c3b1 : decide (a1.size ≤ a0.size) = true := decide_eq_true (Int.ofNat_le.mp c3)
  clear c3
  obtain ⟨ji4, hji4⟩ : ∃ j_ : Int, (wrap64 ((a0.size : Int) - (a1.size : Int))) = j_ := ⟨_, rfl⟩
  replace H : (if 0 ≤ (ji4) then (if (ji4) ≤ (a0.size : Int) then (some ((a0.extract ((ji4) : Int).toNat a0.size).toList == a1.toList)) else (none)) else (none)) = some r := by first | (rw [hji4] at H; exact H) | (simp only [hji4] at H ⊢; exact H)
  have hji4w : (IntKind.i64.wrap ((a0.size : Int) - (a1.size : Int))) = ji4 := (i64_w _).trans hji4
  by_cases c5 : 0 ≤ (ji4)
  rotate_left
  ·rw [if_neg c5] at H
   exact absurd H (by simp)
  rw [if_pos c5] at H
  have c5b0 := eq_true c5
  have c5b1 : decide (0 ≤ (ji4)) = true := decide_eq_true c5
  clear c5
  by_cases c6 : (ji4) ≤ (a0.size : Int)
  rotate_left
  ·rw [if_neg c6] at H
   exact absurd H (by simp)
  rw [if_pos c6] at H
  have c6b0 := eq_true c6
  have c6b1 : decide ((ji4) ≤ (a0.size : Int)) = true := decide_eq_true c6
  clear c6
  obtain rfl := e5_ H
  go_enter Tryz.func108, Tryz.ntmps108
  go_wp2
  go_ret
  exact ⟨by first | rfl | (simp; done) | (simp only [← hji4] <;> (first | rfl | simp)) | (simp [*]; done), by repeat (first | exact Drawn0.refl _ | apply Drawn0.step)⟩
 rw [if_neg c3] at H
 have c3b0 : decide ((a1.size : Int) ≤ (a0.size : Int)) = false := decide_eq_false c3
 have c3b1 : decide (a1.size ≤ a0.size) = false := decide_eq_false (fun h => c3 (Int.ofNat_le.mpr h))
 clear c3
 obtain rfl := e5_ H
 go_enter Tryz.func108, Tryz.ntmps108
 go_wp2
 go_ret
 exact ⟨by first | rfl | (simp; done) | (simp [*]; done), by repeat (first | exact Drawn0.refl _ | apply Drawn0.step)⟩

/-! ### strings_HasSuffix: function 102 -/
def strings_HasSuffix.f (a0 : ByteArray) (a1 : ByteArray) : Option (Bool) := (stringslite_HasSuffix.f a0 a1).bind fun t140 => (some t140)
set_option maxHeartbeats 8000000 in
set_option maxRecDepth 100000 in
theorem strings_HasSuffix.calls (a0 : ByteArray) (a1 : ByteArray) (r : Bool) (w : World) (h : strings_HasSuffix.f a0 a1 = some r) :
  Calls Tryz.prog 102 #[.string a0, .string a1] w fun e w' => e = .returned (.bool r) ∧ Drawn0 w w' := by
 have H : ((stringslite_HasSuffix.f a0 a1).bind fun t140 => (some t140)) = some r := h
 clear h
 replace H := e4_ H
 obtain ⟨t140, A30, H⟩ := H
 replace H : (some t140) = some r := H
 have A3 := am_ A30
 clear A30
 obtain rfl := e5_ H
 go_enter Tryz.func102, Tryz.ntmps102
 go_wp2_with (first | ((with_reducible refine gate_callee (f := 108) rfl ?_); refine goesL_ (some 7) rfl rfl Tryz.func108 (by kernel_rfl) rfl #[.string a0, .string a1] rfl (by (try simp only [List.map_toArray, List.map_cons, List.map_nil]); first | done | rfl | (simp only [List.length_drop, List.length_take]; rfl)) ?_; (with_reducible refine (stringslite_HasSuffix.calls a0 a1 t140 _ A3.out).mono ?_); rintro e w' ⟨rfl, ⟨nd, rfl⟩⟩; refine ⟨_, rfl, ?_⟩))
 go_ret
 exact ⟨by first | rfl | (simp; done) | (simp [*]; done), by repeat (first | exact Drawn0.refl _ | apply Drawn0.step)⟩

/-! ### name_Under: function 94 -/
def name_Under.f (a0 : ByteArray) (a1 : ByteArray) : Option (Bool) := (name_May_c.f a0).bind fun t141 => (if t141 = true then ((name_May_c.f a1).bind fun t142 => (if t142 = true then (if a1.toList = ([] : List UInt8) then (some true) else (if a0.toList = a1.toList then (some true) else (if 1 + a1.size ≤ 9223372036854775807 then ((strings_HasSuffix.f a0 ((⟨#[46]⟩ : ByteArray) ++ a1)).bind fun t143 => (some t143)) else (none)))) else (some false))) else (some false))
set_option maxHeartbeats 8000000 in
set_option maxRecDepth 100000 in
theorem name_Under.calls (a0 : ByteArray) (a1 : ByteArray) (r : Bool) (w : World) (h : name_Under.f a0 a1 = some r) :
  Calls Tryz.prog 94 #[.string a0, .string a1] w fun e w' => e = .returned (.bool r) ∧ Drawn0 w w' := by
 have H : ((name_May_c.f a0).bind fun t141 => (if t141 = true then ((name_May_c.f a1).bind fun t142 => (if t142 = true then (if a1.toList = ([] : List UInt8) then (some true) else (if a0.toList = a1.toList then (some true) else (if 1 + a1.size ≤ 9223372036854775807 then ((strings_HasSuffix.f a0 ((⟨#[46]⟩ : ByteArray) ++ a1)).bind fun t143 => (some t143)) else (none)))) else (some false))) else (some false))) = some r := h
 clear h
 replace H := e4_ H
 obtain ⟨t141, A30, H⟩ := H
 replace H : (if t141 = true then ((name_May_c.f a1).bind fun t142 => (if t142 = true then (if a1.toList = ([] : List UInt8) then (some true) else (if a0.toList = a1.toList then (some true) else (if 1 + a1.size ≤ 9223372036854775807 then ((strings_HasSuffix.f a0 ((⟨#[46]⟩ : ByteArray) ++ a1)).bind fun t143 => (some t143)) else (none)))) else (some false))) else (some false)) = some r := H
 have A3 := am_ A30
 clear A30
 by_cases c4 : t141 = true
 ·subst c4
  have H1 : ((name_May_c.f a1).bind fun t142 => (if t142 = true then (if a1.toList = ([] : List UInt8) then (some true) else (if a0.toList = a1.toList then (some true) else (if 1 + a1.size ≤ 9223372036854775807 then ((strings_HasSuffix.f a0 ((⟨#[46]⟩ : ByteArray) ++ a1)).bind fun t143 => (some t143)) else (none)))) else (some false))) = some r := by rw [if_pos rfl] at H; exact H
  clear H
  have H := H1
  clear H1
  replace H := e4_ H
  obtain ⟨t142, A50, H⟩ := H
  replace H : (if t142 = true then (if a1.toList = ([] : List UInt8) then (some true) else (if a0.toList = a1.toList then (some true) else (if 1 + a1.size ≤ 9223372036854775807 then ((strings_HasSuffix.f a0 ((⟨#[46]⟩ : ByteArray) ++ a1)).bind fun t143 => (some t143)) else (none)))) else (some false)) = some r := H
  have A5 := am_ A50
  clear A50
  by_cases c6 : t142 = true
  ·subst c6
   have H1 : (if a1.toList = ([] : List UInt8) then (some true) else (if a0.toList = a1.toList then (some true) else (if 1 + a1.size ≤ 9223372036854775807 then ((strings_HasSuffix.f a0 ((⟨#[46]⟩ : ByteArray) ++ a1)).bind fun t143 => (some t143)) else (none)))) = some r := by rw [if_pos rfl] at H; exact H
   clear H
   have H := H1
   clear H1
   by_cases c7 : a1.toList = ([] : List UInt8)
   ·rw [if_pos c7] at H
    have c7b0 : (a1.toList == ([] : List UInt8)) = true := beq_iff_eq.mpr c7
    have c7b1 : (a1.toList != ([] : List UInt8)) = false := e1_ c7
    clear c7
    obtain rfl := e5_ H
    go_enter Tryz.func94, Tryz.ntmps94
    go_wp2_with (first | ((with_reducible refine gate_callee (f := 78) rfl ?_); refine goesL_ (some 6) rfl rfl Tryz.func78 (by kernel_rfl) rfl #[.string a0] rfl (by (try simp only [List.map_toArray, List.map_cons, List.map_nil]); first | done | rfl | (simp only [List.length_drop, List.length_take]; rfl)) ?_; (with_reducible refine (name_May_c.calls a0 true _ A3.out).mono ?_); rintro e w' ⟨rfl, ⟨nd, rfl⟩⟩; refine ⟨_, rfl, ?_⟩) | (go_at_call 78; (with_reducible refine (name_May_c.calls a1 true _ A5.out).mono ?_); rintro e w' ⟨rfl, ⟨nd, rfl⟩⟩))
    go_ret
    exact ⟨by first | rfl | (simp; done) | (simp [*]; done) | (simp only [str_ne_]; rfl) | (simp only [str_eq_]; rfl), by repeat (first | exact Drawn0.refl _ | apply Drawn0.step)⟩
   rw [if_neg c7] at H
   have c7b0 : (a1.toList == ([] : List UInt8)) = false := e2_ c7
   have c7b1 : (a1.toList != ([] : List UInt8)) = true := bne_iff_ne.mpr c7
   by_cases c8 : a0.toList = a1.toList
   ·rw [if_pos c8] at H
    have c8b0 : (a0.toList == a1.toList) = true := beq_iff_eq.mpr c8
    have c8b1 : (a0.toList != a1.toList) = false := e1_ c8
    clear c8
    obtain rfl := e5_ H
    go_enter Tryz.func94, Tryz.ntmps94
    go_wp2_with (first | ((with_reducible refine gate_callee (f := 78) rfl ?_); refine goesL_ (some 6) rfl rfl Tryz.func78 (by kernel_rfl) rfl #[.string a0] rfl (by (try simp only [List.map_toArray, List.map_cons, List.map_nil]); first | done | rfl | (simp only [List.length_drop, List.length_take]; rfl)) ?_; (with_reducible refine (name_May_c.calls a0 true _ A3.out).mono ?_); rintro e w' ⟨rfl, ⟨nd, rfl⟩⟩; refine ⟨_, rfl, ?_⟩) | (go_at_call 78; (with_reducible refine (name_May_c.calls a1 true _ A5.out).mono ?_); rintro e w' ⟨rfl, ⟨nd, rfl⟩⟩))
    go_ret
    exact ⟨by first | rfl | (simp; done) | (simp [*]; done) | (simp only [str_ne_]; rfl) | (simp only [str_eq_]; rfl), by repeat (first | exact Drawn0.refl _ | apply Drawn0.step)⟩
   rw [if_neg c8] at H
   have c8b0 : (a0.toList == a1.toList) = false := e2_ c8
   have c8b1 : (a0.toList != a1.toList) = true := bne_iff_ne.mpr c8
   by_cases c9 : 1 + a1.size ≤ 9223372036854775807
   rotate_left
   ·rw [if_neg c9] at H
    exact absurd H (by simp)
   rw [if_pos c9] at H
   have c9b0 := eq_true c9
   have c9b1 : decide (1 + a1.size ≤ 9223372036854775807) = true := decide_eq_true c9
   try have c9b2 : (9223372036854775807 < 1 + a1.size) = False := eq_false (Nat.not_lt.2 c9)
   replace H := e4_ H
   obtain ⟨t143, A100, H⟩ := H
   replace H : (some t143) = some r := H
   have A10 := am_ A100
   clear A100
   obtain rfl := e5_ H
   go_enter Tryz.func94, Tryz.ntmps94
   go_wp2_with (first | ((with_reducible refine gate_callee (f := 78) rfl ?_); refine goesL_ (some 6) rfl rfl Tryz.func78 (by kernel_rfl) rfl #[.string a0] rfl (by (try simp only [List.map_toArray, List.map_cons, List.map_nil]); first | done | rfl | (simp only [List.length_drop, List.length_take]; rfl)) ?_; (with_reducible refine (name_May_c.calls a0 true _ A3.out).mono ?_); rintro e w' ⟨rfl, ⟨nd, rfl⟩⟩; refine ⟨_, rfl, ?_⟩) | (go_at_call 78; (with_reducible refine (name_May_c.calls a1 true _ A5.out).mono ?_); rintro e w' ⟨rfl, ⟨nd, rfl⟩⟩) | (go_at_call 102; (with_reducible refine (strings_HasSuffix.calls a0 ((⟨#[46]⟩ : ByteArray) ++ a1) t143 _ A10.out).mono ?_); rintro e w' ⟨rfl, ⟨nd, rfl⟩⟩))
   go_ret
   exact ⟨by first | rfl | (simp; done) | (simp [*]; done) | (simp only [str_ne_]; rfl) | (simp only [str_eq_]; rfl), by repeat (first | exact Drawn0.refl _ | apply Drawn0.step)⟩
  replace c6 := e3_ c6
  subst c6
  have H1 : (some false) = some r := by rw [if_neg (show ¬ (false = true) by decide)] at H; exact H
  clear H
  have H := H1
  clear H1
  obtain rfl := e5_ H
  go_enter Tryz.func94, Tryz.ntmps94
  go_wp2_with (first | ((with_reducible refine gate_callee (f := 78) rfl ?_); refine goesL_ (some 6) rfl rfl Tryz.func78 (by kernel_rfl) rfl #[.string a0] rfl (by (try simp only [List.map_toArray, List.map_cons, List.map_nil]); first | done | rfl | (simp only [List.length_drop, List.length_take]; rfl)) ?_; (with_reducible refine (name_May_c.calls a0 true _ A3.out).mono ?_); rintro e w' ⟨rfl, ⟨nd, rfl⟩⟩; refine ⟨_, rfl, ?_⟩) | (go_at_call 78; (with_reducible refine (name_May_c.calls a1 false _ A5.out).mono ?_); rintro e w' ⟨rfl, ⟨nd, rfl⟩⟩))
  go_ret
  exact ⟨by first | rfl | (simp; done) | (simp [*]; done) | (simp only [str_ne_]; rfl) | (simp only [str_eq_]; rfl), by repeat (first | exact Drawn0.refl _ | apply Drawn0.step)⟩
 replace c4 := e3_ c4
 subst c4
 have H1 : (some false) = some r := by rw [if_neg (show ¬ (false = true) by decide)] at H; exact H
 clear H
 have H := H1
 clear H1
 obtain rfl := e5_ H
 go_enter Tryz.func94, Tryz.ntmps94
 go_wp2_with (first | ((with_reducible refine gate_callee (f := 78) rfl ?_); refine goesL_ (some 6) rfl rfl Tryz.func78 (by kernel_rfl) rfl #[.string a0] rfl (by (try simp only [List.map_toArray, List.map_cons, List.map_nil]); first | done | rfl | (simp only [List.length_drop, List.length_take]; rfl)) ?_; (with_reducible refine (name_May_c.calls a0 false _ A3.out).mono ?_); rintro e w' ⟨rfl, ⟨nd, rfl⟩⟩; refine ⟨_, rfl, ?_⟩))
 go_ret
 exact ⟨by first | rfl | (simp; done) | (simp [*]; done) | (simp only [str_ne_]; rfl) | (simp only [str_eq_]; rfl), by repeat (first | exact Drawn0.refl _ | apply Drawn0.step)⟩

/-! ### name_Under_c: function 94 -/
-- inc suffix.inc
theorem suffix_eq (s t : ByteArray) (hs : s.size ≤ 4611686018427387904) : strings_HasSuffix.f s t = some (decide (bytesOf t <:+ bytesOf s)) := by
 unfold strings_HasSuffix.f stringslite_HasSuffix.f
 by_cases h : (s.size : Int) ≥ (t.size : Int)
 ·rw [if_pos h, w64 (by omega), if_pos (by omega), if_pos (by omega), Option.bind_some]
  congr 1
  rw [Bool.eq_iff_iff, beq_iff_eq, decide_eq_true_eq, toList_iff, bytesOf_extract, List.take_of_length_le (by rw [List.length_drop, bytesOf_length]; omega)]
  rw [List.suffix_iff_eq_drop, bytesOf_length, bytesOf_length, show ((s.size : Int) - (t.size : Int)).toNat = s.size - t.size by omega]
  exact eq_comm
 ·rw [if_neg h, Option.bind_some]
  congr 1
  symm
  rw [decide_eq_false_iff_not]
  intro e
  have := e.length_le
  rw [bytesOf_length, bytesOf_length] at this
  omega
theorem under_eq_ (s z : ByteArray) (hs : s.size ≤ 140737488351232) (hz : z.size ≤ 140737488351232) : name_Under.f s z = some (underB (bytesOf s) (bytesOf z)) := by
 unfold name_Under.f underB
 unfold name_May_c.f
 rw [if_pos (show s.size ≤ 562949953421312 by omega), if_pos (show z.size ≤ 562949953421312 by omega)]
 simp only [Option.bind_some]
 cases nameB (bytesOf s) with
 | false => rfl
 | true =>
  cases nameB (bytesOf z) with
  | false => rfl
  | true =>
   simp only [if_true, Bool.and_self, Bool.true_and]
   by_cases q1 : z.size = 0
   ·have hn : bytesOf z = [] := List.length_eq_zero_iff.1 (by rw [bytesOf_length]; omega)
    rw [if_pos ((toList_nil z).2 q1), decide_eq_true (show isU (bytesOf s) (bytesOf z) from .inl hn)]
   ·have hn : bytesOf z ≠ [] := fun e => q1 (by rw [← bytesOf_length, e]; rfl)
    rw [if_neg (fun e => q1 ((toList_nil z).1 e))]
    by_cases q2 : bytesOf s = bytesOf z
    ·rw [if_pos ((toList_iff s z).2 q2), decide_eq_true (show isU (bytesOf s) (bytesOf z) from .inr (.inl q2))]
    ·rw [if_neg (fun e => q2 ((toList_iff s z).1 e)), if_pos (by omega), suffix_eq _ _ (by omega), Option.bind_some, bytesOf_append]
     congr 1
     rw [Bool.eq_iff_iff, decide_eq_true_eq, decide_eq_true_eq]
     unfold isU
     have e : bytesOf ⟨#[46]⟩ ++ bytesOf z = 46 :: bytesOf z := rfl
     rw [e]
     constructor
     ·exact fun h => .inr (.inr h)
     ·rintro (h | h | h)
      ·exact absurd h hn
      ·exact absurd h q2
      ·exact h
def name_Under_c.f (a0 a1 : ByteArray) : Option Bool := if a0.size ≤ 140737488351232 ∧ a1.size ≤ 140737488351232 then some (underB (bytesOf a0) (bytesOf a1)) else none
theorem name_Under_c.calls (a0 a1 : ByteArray) (r : Bool) (w : World) (h : name_Under_c.f a0 a1 = some r) :
  Calls Tryz.prog 94 #[.string a0, .string a1] w fun e w' => e = .returned (.bool r) ∧ Drawn0 w w' := by
 unfold name_Under_c.f at h
 by_cases hs : a0.size ≤ 140737488351232 ∧ a1.size ≤ 140737488351232
 ·rw [if_pos hs] at h
  exact name_Under.calls a0 a1 r w (by rw [under_eq_ a0 a1 hs.1 hs.2]; exact h)
 ·rw [if_neg hs] at h
  cases h

/-! ### conf_static: function 82 -/
-- BY HAND
theorem dropStat (l0 : List S83) (i : Int) (h0 : 0 ≤ i) (h1 : i < l0.length) : l0.drop i.toNat = rd_T83 l0 i :: l0.drop (i.toNat + 1) ∧ rd_T83 l0 i ∈ l0 := by
 have h : i.toNat < l0.length := by omega
 have e : rd_T83 l0 i = l0[i.toNat] := by
  unfold rd_T83
  rw [List.getD_eq_getElem?_getD, List.getElem?_eq_getElem h]
  rfl
 rw [e, List.drop_eq_getElem_cons h]
 exact ⟨rfl, List.getElem_mem h⟩
/-- where a record and a zone's name lie. -/
def conf_static.S (B g : Nat) (f0 : ByteArray) (f1 f2 f3 : Int) (f4 f5 : ByteArray) (f6 : Int) (z : ByteArray) (w' : World) : Prop := w'.cell? ⟨B, 0, none⟩ = some (.string f0) ∧ w'.cell? ⟨B, 1, none⟩ = some (.int .i64 f1) ∧ w'.cell? ⟨B, 2, none⟩ = some (.int .i64 f2) ∧ w'.cell? ⟨B, 3, none⟩ = some (.int .i64 f3) ∧ w'.cell? ⟨B, 4, none⟩ = some (.string f4) ∧ w'.cell? ⟨B, 5, none⟩ = some (.string f5) ∧ w'.cell? ⟨B, 6, none⟩ = some (.int .i64 f6) ∧ w'.cell? ⟨g, 5, none⟩ = some (.string z)
theorem conf_static.S_below {B g : Nat} {f0 : ByteArray} {f1 f2 f3 : Int} {f4 f5 : ByteArray} {f6 : Int} {z : ByteArray} {w w2 : World} (h : conf_static.S B g f0 f1 f2 f3 f4 f5 f6 z w) (hb : Below w.heap.size w w2) : conf_static.S B g f0 f1 f2 f3 f4 f5 f6 z w2 := by
 obtain ⟨s0, s1, s2, s3, s4, s5, s6, s7⟩ := h
 exact ⟨(hb.cell (wb_ _ _ s0)).trans s0, (hb.cell (wb_ _ _ s1)).trans s1, (hb.cell (wb_ _ _ s2)).trans s2, (hb.cell (wb_ _ _ s3)).trans s3, (hb.cell (wb_ _ _ s4)).trans s4, (hb.cell (wb_ _ _ s5)).trans s5, (hb.cell (wb_ _ _ s6)).trans s6, (hb.cell (wb_ _ _ s7)).trans s7⟩
set_option maxHeartbeats 8000000 in
set_option maxRecDepth 100000 in
theorem conf_static.calls (g : Nat) (z : ByteArray) (A0 : Option Addr) (c0 : Nat) (l0 : List S83) (w : World) (hz : w.cell? ⟨g, 5, none⟩ = some (.string z)) (hl : w.cell? ⟨g, 6, none⟩ = some (.slice A0 l0.length c0)) (hr0 : Kd.C k83 w A0 l0.length l0) (hs : l0.length ≤ 140737488351232) (hzs : z.size ≤ 140737488351232) (hx : ∀ x ∈ l0, x.f0.size ≤ 140737488351232 ∧ x.f4.size ≤ 140737488351232) :
  Calls Tryz.prog 82 #[.pointer (some ⟨g, 0, none⟩)] w fun e w' => e = .returned (.bool (staticsB z l0)) ∧ Below w.heap.size w w' := by
 have HR0 := am_ hr0
 have HZ := am_ hz
 have HL := am_ hl
 have HX := am_ hx
 have e4 : (l0.all (staticB z) && decide (l0.length ≤ 8)) = staticsB z l0 := rfl
 replace e4 := am_ e4
 obtain ⟨r, hr⟩ : ∃ r, staticsB z l0 = r := ⟨_, rfl⟩
 rw [hr] at e4 ⊢
 clear hr0 hr hx
 go_enter Tryz.func82, Tryz.ntmps82
 go_wp2
 go_loopg [10] l0.length (fun d v9 wr => ∃ (i : Int), 0 ≤ i ∧ i.toNat + d = l0.length ∧ v9 = .int .i64 i ∧ Aside0 (Below w.heap.size w wr) ∧ Aside0 (l0.all (staticB z) = (l0.drop i.toNat).all (staticB z)))
 case atStart => exact ⟨0, by omega, by simp, rfl, ⟨Below.refl _ _⟩, ⟨rfl⟩⟩
 case round =>
  obtain ⟨i, hi0, hd, rfl, HB, HS⟩ := hrel
  clear hz hl
  have hgl := wb_ w _ HZ.out
  have hgl2 : g < wr.heap.size := Nat.lt_of_lt_of_le hgl HB.out.size
  have hgne : g ≠ wr.heap.size := by omega
  have hz := (HB.out.cell (wb_ w _ HZ.out)).trans HZ.out
  have hl := (HB.out.cell (wb_ w _ HL.out)).trans HL.out
  by_cases hlt : i < (l0.length : Int)
  ·obtain ⟨ad, e1, hx0, hx1, hx2, hx3, hx4, hx5, hx6⟩ := at_T83 HR0.out i hi0 hlt
   cases e1
   replace hx0 := (HB.out.cell (wb_ w _ hx0)).trans hx0
   replace hx1 := (HB.out.cell (wb_ w _ hx1)).trans hx1
   replace hx2 := (HB.out.cell (wb_ w _ hx2)).trans hx2
   replace hx3 := (HB.out.cell (wb_ w _ hx3)).trans hx3
   replace hx4 := (HB.out.cell (wb_ w _ hx4)).trans hx4
   replace hx5 := (HB.out.cell (wb_ w _ hx5)).trans hx5
   replace hx6 := (HB.out.cell (wb_ w _ hx6)).trans hx6
   have HD := HS.out
   obtain ⟨hd1, hmem⟩ := dropStat l0 i hi0 hlt
   have hsz := HX.out _ hmem
   rw [hd1, List.all_cons] at HD
   clear HS hd1 hmem
   generalize rd_T83 l0 i = x at hx0 hx1 hx2 hx3 hx4 hx5 hx6 HD hsz
   obtain ⟨f0, f1, f2, f3, f4, f5, f6⟩ := x
   simp only at hx0 hx1 hx2 hx3 hx4 hx5 hx6 hsz
   have fin : staticB z ⟨f0, f1, f2, f3, f4, f5, f6⟩ = false → false = r := fun e => by rw [← e4.out, HD, e]; rfl
   have HN : staticB z ⟨f0, f1, f2, f3, f4, f5, f6⟩ = true → l0.all (staticB z) = (l0.drop (i.toNat + 1)).all (staticB z) := fun e => by rw [HD, e, Bool.true_and]
   clear HD
   by_cases qk : f1 = 1 ∨ f1 = 5 ∨ f1 = 16
   ·obtain ⟨b1, hb1⟩ : ∃ b, rrB f0 f1 f2 f3 f4 f5 f6 = b := ⟨_, rfl⟩
    obtain ⟨b2, hb2⟩ : ∃ b, underB (bytesOf f0) (bytesOf z) = b := ⟨_, rfl⟩
    have C1 := am_ (fun W => rr_May.calls f0 f1 f2 f3 f4 f5 f6 b1 W (by unfold rr_May.f; rw [if_pos ⟨hsz.1, hsz.2, qk⟩, hb1]))
    have C2 := am_ (fun W => name_Under_c.calls f0 z b2 W (by unfold name_Under_c.f; rw [if_pos ⟨hsz.1, hzs⟩, hb2]))
    have hst : staticB z ⟨f0, f1, f2, f3, f4, f5, f6⟩ = (b1 && (b2 && decide (f0.toList ≠ z.toList))) := by
     unfold staticB
     rw [decide_eq_true qk, hb1, hb2, Bool.true_and]
    rw [hst] at fin HN
    replace fin := am_ fin
    replace HN := am_ HN
    clear hst hb1 hb2 hsz
    obtain ⟨b3, hb3⟩ : ∃ b3 : Bool, (f0.toList == z.toList) = b3 := ⟨_, rfl⟩
    clear hb3 b3
    obtain ⟨f1', hf1⟩ : ∃ x, x = f1 := ⟨f1, rfl⟩
    have HC1 := am_ (show ∀ W, Calls Tryz.prog 93 #[.agg #[.string f0, .int .i64 f1', .int .i64 f2, .int .i64 f3, .string f4, .string f5, .int .i64 f6]] W fun e w' => e = .returned (.bool b1) ∧ Below W.heap.size W w' by rw [hf1]; exact C1.out)
    rcases qk with rfl | rfl | rfl
    all_goals
     go_wp2_with fail
     have HB1 := am_ (below_drew (p3_ HB.out (.cells #[.string f0, .int .i64 f1', .int .i64 f2, .int .i64 f3, .string f4, .string f5, .int .i64 f6] 83)))
     subst hf1
    ·refine seqS (S := conf_static.S wr.heap.size g f0 1 f2 f3 f4 f5 f6 z) 37 (by kernel_rfl) rfl rfl (by unfold conf_static.S; go_simp) ?_
     intro hHeld
     iterate 4 first | (refine seqP (v := ?_) (a' := ?_) rfl rfl (by kernel_rfl) (fun _ _ _ h => h) (Or.inl ⟨by kernel_rfl, ?_⟩) ?_ ?_; rotate_left; (intro w'; go_simp; with_reducible rfl); rotate_left; (simp only [Act.put, sa_, sb_, sc_, i64_w, i32_w]; rfl)) | (refine seqL (v := ?_) (a' := ?_) rfl rfl (by kernel_rfl) (fun _ _ _ h => h) (Or.inl ⟨by kernel_rfl, ?_⟩) hHeld ?_ ?_; rotate_left; (rintro w' ⟨s0, s1, s2, s3, s4, s5, s6, s7⟩; go_simp; with_reducible rfl); rotate_left; (simp only [Act.put, sa_, sb_, sc_, i64_w, i32_w]; rfl))
     iterate 3 (refine seqP (v := undef) (a' := ?_) rfl rfl (by kernel_rfl) (fun _ _ _ h => h) (Or.inr ⟨by kernel_rfl, rfl⟩) ?_ ?_; rotate_left; (simp only [Act.put, sa_, sb_, sc_, i64_w, i32_w]; rfl))
     iterate 2 first | (refine seqP (v := ?_) (a' := ?_) rfl rfl (by kernel_rfl) (fun _ _ _ h => h) (Or.inl ⟨by kernel_rfl, ?_⟩) ?_ ?_; rotate_left; (intro w'; go_simp; with_reducible rfl); rotate_left; (simp only [Act.put, sa_, sb_, sc_, i64_w, i32_w]; rfl)) | (refine seqL (v := ?_) (a' := ?_) rfl rfl (by kernel_rfl) (fun _ _ _ h => h) (Or.inl ⟨by kernel_rfl, ?_⟩) hHeld ?_ ?_; rotate_left; (rintro w' ⟨s0, s1, s2, s3, s4, s5, s6, s7⟩; go_simp; with_reducible rfl); rotate_left; (simp only [Act.put, sa_, sb_, sc_, i64_w, i32_w]; rfl))
     iterate 3 (refine seqP (v := undef) (a' := ?_) rfl rfl (by kernel_rfl) (fun _ _ _ h => h) (Or.inr ⟨by kernel_rfl, rfl⟩) ?_ ?_; rotate_left; (simp only [Act.put, sa_, sb_, sc_, i64_w, i32_w]; rfl))
     iterate 2 first | (refine seqP (v := ?_) (a' := ?_) rfl rfl (by kernel_rfl) (fun _ _ _ h => h) (Or.inl ⟨by kernel_rfl, ?_⟩) ?_ ?_; rotate_left; (intro w'; go_simp; with_reducible rfl); rotate_left; (simp only [Act.put, sa_, sb_, sc_, i64_w, i32_w]; rfl)) | (refine seqL (v := ?_) (a' := ?_) rfl rfl (by kernel_rfl) (fun _ _ _ h => h) (Or.inl ⟨by kernel_rfl, ?_⟩) hHeld ?_ ?_; rotate_left; (rintro w' ⟨s0, s1, s2, s3, s4, s5, s6, s7⟩; go_simp; with_reducible rfl); rotate_left; (simp only [Act.put, sa_, sb_, sc_, i64_w, i32_w]; rfl))
     iterate 1 first | (refine seqP (v := ?_) (a' := ?_) rfl rfl (by kernel_rfl) (fun _ _ _ h => h) (Or.inl ⟨by kernel_rfl, ?_⟩) ?_ ?_; rotate_left; (intro w'; go_simp; with_reducible rfl); rotate_left; (simp only [Act.put, sa_, sb_, sc_, i64_w, i32_w]; rfl)) | (refine seqL (v := ?_) (a' := ?_) rfl rfl (by kernel_rfl) (fun _ _ _ h => h) (Or.inl ⟨by kernel_rfl, ?_⟩) hHeld ?_ ?_; rotate_left; (rintro w' ⟨s0, s1, s2, s3, s4, s5, s6, s7⟩; go_simp; with_reducible rfl); rotate_left; (simp only [Act.put, sa_, sb_, sc_, i64_w, i32_w]; rfl))
     refine seqG (fn := Tryz.f93) rfl rfl (by kernel_rfl) rfl Tryz.func93 (by kernel_rfl) (by kernel_rfl) #[.agg #[.string f0, .int .i64 1, .int .i64 f2, .int .i64 f3, .string f4, .string f5, .int .i64 f6]] (by kernel_rfl) (by (try simp only [List.map_toArray, List.map_cons, List.map_nil]); first | done | rfl) ?_
     with_reducible refine (C1.out _).mono ?_
     rintro e w2 ⟨rfl, hb2⟩
     have HB2 := am_ (bt_ HB1.out hb2)
     refine ⟨_, rfl, conf_static.S_below hHeld hb2, fun hHeld => ⟨?_, ?_, ?_⟩⟩
     rotate_left
     ·simp only [Act.put, sa_, sb_, sc_, i64_w, i32_w]
      rfl
     iterate 3 first | (refine seqP (v := ?_) (a' := ?_) rfl rfl (by kernel_rfl) (fun _ _ _ h => h) (Or.inl ⟨by kernel_rfl, ?_⟩) ?_ ?_; rotate_left; (intro w'; go_simp; with_reducible rfl); rotate_left; (simp only [Act.put, sa_, sb_, sc_, i64_w, i32_w]; rfl)) | (refine seqL (v := ?_) (a' := ?_) rfl rfl (by kernel_rfl) (fun _ _ _ h => h) (Or.inl ⟨by kernel_rfl, ?_⟩) hHeld ?_ ?_; rotate_left; (rintro w' ⟨s0, s1, s2, s3, s4, s5, s6, s7⟩; go_simp; with_reducible rfl); rotate_left; (simp only [Act.put, sa_, sb_, sc_, i64_w, i32_w]; rfl))
     cases b1 with
     | false =>
      iterate 8 (refine seqP (v := undef) (a' := ?_) rfl rfl (by kernel_rfl) (fun _ _ _ h => h) (Or.inr ⟨by kernel_rfl, rfl⟩) ?_ ?_; rotate_left; (simp only [Act.put, sa_, sb_, sc_, i64_w, i32_w]; rfl))
      iterate 2 first | (refine seqP (v := ?_) (a' := ?_) rfl rfl (by kernel_rfl) (fun _ _ _ h => h) (Or.inl ⟨by kernel_rfl, ?_⟩) ?_ ?_; rotate_left; (intro w'; go_simp; with_reducible rfl); rotate_left; (simp only [Act.put, sa_, sb_, sc_, i64_w, i32_w]; rfl)) | (refine seqL (v := ?_) (a' := ?_) rfl rfl (by kernel_rfl) (fun _ _ _ h => h) (Or.inl ⟨by kernel_rfl, ?_⟩) hHeld ?_ ?_; rotate_left; (rintro w' ⟨s0, s1, s2, s3, s4, s5, s6, s7⟩; go_simp; with_reducible rfl); rotate_left; (simp only [Act.put, sa_, sb_, sc_, i64_w, i32_w]; rfl))
      iterate 7 (refine seqP (v := undef) (a' := ?_) rfl rfl (by kernel_rfl) (fun _ _ _ h => h) (Or.inr ⟨by kernel_rfl, rfl⟩) ?_ ?_; rotate_left; (simp only [Act.put, sa_, sb_, sc_, i64_w, i32_w]; rfl))
      iterate 1 first | (refine seqP (v := ?_) (a' := ?_) rfl rfl (by kernel_rfl) (fun _ _ _ h => h) (Or.inl ⟨by kernel_rfl, ?_⟩) ?_ ?_; rotate_left; (intro w'; go_simp; with_reducible rfl); rotate_left; (simp only [Act.put, sa_, sb_, sc_, i64_w, i32_w]; rfl)) | (refine seqL (v := ?_) (a' := ?_) rfl rfl (by kernel_rfl) (fun _ _ _ h => h) (Or.inl ⟨by kernel_rfl, ?_⟩) hHeld ?_ ?_; rotate_left; (rintro w' ⟨s0, s1, s2, s3, s4, s5, s6, s7⟩; go_simp; with_reducible rfl); rotate_left; (simp only [Act.put, sa_, sb_, sc_, i64_w, i32_w]; rfl))
      refine seqE (by kernel_rfl) ?_
      go_wp2
      go_ret
      exact ⟨ret_bool (fin.out (by simp)), by repeat (with_reducible first | exact HB2.out | exact HB1.out | apply p3_ | apply p1_ | apply p2_)⟩
     | true =>
      iterate 6 first | (refine seqP (v := ?_) (a' := ?_) rfl rfl (by kernel_rfl) (fun _ _ _ h => h) (Or.inl ⟨by kernel_rfl, ?_⟩) ?_ ?_; rotate_left; (intro w'; go_simp; with_reducible rfl); rotate_left; (simp only [Act.put, sa_, sb_, sc_, i64_w, i32_w]; rfl)) | (refine seqL (v := ?_) (a' := ?_) rfl rfl (by kernel_rfl) (fun _ _ _ h => h) (Or.inl ⟨by kernel_rfl, ?_⟩) hHeld ?_ ?_; rotate_left; (rintro w' ⟨s0, s1, s2, s3, s4, s5, s6, s7⟩; go_simp; with_reducible rfl); rotate_left; (simp only [Act.put, sa_, sb_, sc_, i64_w, i32_w]; rfl))
      refine seqG (fn := Tryz.f94) rfl rfl (by kernel_rfl) rfl Tryz.func94 (by kernel_rfl) (by kernel_rfl) #[.string f0, .string z] (by kernel_rfl) (by (try simp only [List.map_toArray, List.map_cons, List.map_nil]); first | done | rfl) ?_
      with_reducible refine (C2.out _).mono ?_
      rintro e w3 ⟨rfl, ⟨nd, rfl⟩⟩
      skip
      refine ⟨_, rfl, conf_static.S_below hHeld (p1_ (Below.refl _ _) _), fun hHeld => ⟨?_, ?_, ?_⟩⟩
      rotate_left
      ·simp only [Act.put, sa_, sb_, sc_, i64_w, i32_w]
       rfl
      iterate 3 first | (refine seqP (v := ?_) (a' := ?_) rfl rfl (by kernel_rfl) (fun _ _ _ h => h) (Or.inl ⟨by kernel_rfl, ?_⟩) ?_ ?_; rotate_left; (intro w'; go_simp; with_reducible rfl); rotate_left; (simp only [Act.put, sa_, sb_, sc_, i64_w, i32_w]; rfl)) | (refine seqL (v := ?_) (a' := ?_) rfl rfl (by kernel_rfl) (fun _ _ _ h => h) (Or.inl ⟨by kernel_rfl, ?_⟩) hHeld ?_ ?_; rotate_left; (rintro w' ⟨s0, s1, s2, s3, s4, s5, s6, s7⟩; go_simp; with_reducible rfl); rotate_left; (simp only [Act.put, sa_, sb_, sc_, i64_w, i32_w]; rfl))
      cases b2 with
      | false =>
       iterate 7 (refine seqP (v := undef) (a' := ?_) rfl rfl (by kernel_rfl) (fun _ _ _ h => h) (Or.inr ⟨by kernel_rfl, rfl⟩) ?_ ?_; rotate_left; (simp only [Act.put, sa_, sb_, sc_, i64_w, i32_w]; rfl))
       iterate 1 first | (refine seqP (v := ?_) (a' := ?_) rfl rfl (by kernel_rfl) (fun _ _ _ h => h) (Or.inl ⟨by kernel_rfl, ?_⟩) ?_ ?_; rotate_left; (intro w'; go_simp; with_reducible rfl); rotate_left; (simp only [Act.put, sa_, sb_, sc_, i64_w, i32_w]; rfl)) | (refine seqL (v := ?_) (a' := ?_) rfl rfl (by kernel_rfl) (fun _ _ _ h => h) (Or.inl ⟨by kernel_rfl, ?_⟩) hHeld ?_ ?_; rotate_left; (rintro w' ⟨s0, s1, s2, s3, s4, s5, s6, s7⟩; go_simp; with_reducible rfl); rotate_left; (simp only [Act.put, sa_, sb_, sc_, i64_w, i32_w]; rfl))
       refine seqE (by kernel_rfl) ?_
       go_wp2
       go_ret
       exact ⟨ret_bool (fin.out (by simp)), by repeat (with_reducible first | exact HB2.out | exact HB1.out | apply p3_ | apply p1_ | apply p2_)⟩
      | true =>
       iterate 8 first | (refine seqP (v := ?_) (a' := ?_) rfl rfl (by kernel_rfl) (fun _ _ _ h => h) (Or.inl ⟨by kernel_rfl, ?_⟩) ?_ ?_; rotate_left; (intro w'; go_simp; with_reducible rfl); rotate_left; (simp only [Act.put, sa_, sb_, sc_, i64_w, i32_w]; rfl)) | (refine seqL (v := ?_) (a' := ?_) rfl rfl (by kernel_rfl) (fun _ _ _ h => h) (Or.inl ⟨by kernel_rfl, ?_⟩) hHeld ?_ ?_; rotate_left; (rintro w' ⟨s0, s1, s2, s3, s4, s5, s6, s7⟩; go_simp; with_reducible rfl); rotate_left; (simp only [Act.put, sa_, sb_, sc_, i64_w, i32_w]; rfl))
       refine seqE (by kernel_rfl) ?_
       generalize hq : (f0.toList == z.toList) = b3
       cases b3 with
       | true =>
        replace hq := am_ hq
        go_wp2
        go_ret
        exact ⟨ret_bool (fin.out (by simpa using hq.out)), by repeat (with_reducible first | exact HB2.out | exact HB1.out | apply p3_ | apply p1_ | apply p2_)⟩
       | false =>
        have HS2 := am_ (HN.out (by simpa using hq))
        replace hq := am_ hq
        go_wp2
        go_roundg (l0.length - (i.toNat + 1))
        case measure => first | omega | (simp; omega)
        case rel =>
         have e2 : (i + 1).toNat = i.toNat + 1 := by omega
         exact ⟨i + 1, by omega, by omega, by go_num, ⟨by repeat (with_reducible first | exact HB2.out | exact HB1.out | apply p3_ | apply p1_ | apply p2_)⟩, ⟨by rw [e2]; exact HS2.out⟩⟩
    ·refine seqS (S := conf_static.S wr.heap.size g f0 5 f2 f3 f4 f5 f6 z) 37 (by kernel_rfl) rfl rfl (by unfold conf_static.S; go_simp) ?_
     intro hHeld
     iterate 4 first | (refine seqP (v := ?_) (a' := ?_) rfl rfl (by kernel_rfl) (fun _ _ _ h => h) (Or.inl ⟨by kernel_rfl, ?_⟩) ?_ ?_; rotate_left; (intro w'; go_simp; with_reducible rfl); rotate_left; (simp only [Act.put, sa_, sb_, sc_, i64_w, i32_w]; rfl)) | (refine seqL (v := ?_) (a' := ?_) rfl rfl (by kernel_rfl) (fun _ _ _ h => h) (Or.inl ⟨by kernel_rfl, ?_⟩) hHeld ?_ ?_; rotate_left; (rintro w' ⟨s0, s1, s2, s3, s4, s5, s6, s7⟩; go_simp; with_reducible rfl); rotate_left; (simp only [Act.put, sa_, sb_, sc_, i64_w, i32_w]; rfl))
     iterate 3 first | (refine seqP (v := ?_) (a' := ?_) rfl rfl (by kernel_rfl) (fun _ _ _ h => h) (Or.inl ⟨by kernel_rfl, ?_⟩) ?_ ?_; rotate_left; (intro w'; go_simp; with_reducible rfl); rotate_left; (simp only [Act.put, sa_, sb_, sc_, i64_w, i32_w]; rfl)) | (refine seqL (v := ?_) (a' := ?_) rfl rfl (by kernel_rfl) (fun _ _ _ h => h) (Or.inl ⟨by kernel_rfl, ?_⟩) hHeld ?_ ?_; rotate_left; (rintro w' ⟨s0, s1, s2, s3, s4, s5, s6, s7⟩; go_simp; with_reducible rfl); rotate_left; (simp only [Act.put, sa_, sb_, sc_, i64_w, i32_w]; rfl))
     iterate 2 first | (refine seqP (v := ?_) (a' := ?_) rfl rfl (by kernel_rfl) (fun _ _ _ h => h) (Or.inl ⟨by kernel_rfl, ?_⟩) ?_ ?_; rotate_left; (intro w'; go_simp; with_reducible rfl); rotate_left; (simp only [Act.put, sa_, sb_, sc_, i64_w, i32_w]; rfl)) | (refine seqL (v := ?_) (a' := ?_) rfl rfl (by kernel_rfl) (fun _ _ _ h => h) (Or.inl ⟨by kernel_rfl, ?_⟩) hHeld ?_ ?_; rotate_left; (rintro w' ⟨s0, s1, s2, s3, s4, s5, s6, s7⟩; go_simp; with_reducible rfl); rotate_left; (simp only [Act.put, sa_, sb_, sc_, i64_w, i32_w]; rfl))
     iterate 3 (refine seqP (v := undef) (a' := ?_) rfl rfl (by kernel_rfl) (fun _ _ _ h => h) (Or.inr ⟨by kernel_rfl, rfl⟩) ?_ ?_; rotate_left; (simp only [Act.put, sa_, sb_, sc_, i64_w, i32_w]; rfl))
     iterate 2 first | (refine seqP (v := ?_) (a' := ?_) rfl rfl (by kernel_rfl) (fun _ _ _ h => h) (Or.inl ⟨by kernel_rfl, ?_⟩) ?_ ?_; rotate_left; (intro w'; go_simp; with_reducible rfl); rotate_left; (simp only [Act.put, sa_, sb_, sc_, i64_w, i32_w]; rfl)) | (refine seqL (v := ?_) (a' := ?_) rfl rfl (by kernel_rfl) (fun _ _ _ h => h) (Or.inl ⟨by kernel_rfl, ?_⟩) hHeld ?_ ?_; rotate_left; (rintro w' ⟨s0, s1, s2, s3, s4, s5, s6, s7⟩; go_simp; with_reducible rfl); rotate_left; (simp only [Act.put, sa_, sb_, sc_, i64_w, i32_w]; rfl))
     iterate 1 first | (refine seqP (v := ?_) (a' := ?_) rfl rfl (by kernel_rfl) (fun _ _ _ h => h) (Or.inl ⟨by kernel_rfl, ?_⟩) ?_ ?_; rotate_left; (intro w'; go_simp; with_reducible rfl); rotate_left; (simp only [Act.put, sa_, sb_, sc_, i64_w, i32_w]; rfl)) | (refine seqL (v := ?_) (a' := ?_) rfl rfl (by kernel_rfl) (fun _ _ _ h => h) (Or.inl ⟨by kernel_rfl, ?_⟩) hHeld ?_ ?_; rotate_left; (rintro w' ⟨s0, s1, s2, s3, s4, s5, s6, s7⟩; go_simp; with_reducible rfl); rotate_left; (simp only [Act.put, sa_, sb_, sc_, i64_w, i32_w]; rfl))
     refine seqG (fn := Tryz.f93) rfl rfl (by kernel_rfl) rfl Tryz.func93 (by kernel_rfl) (by kernel_rfl) #[.agg #[.string f0, .int .i64 5, .int .i64 f2, .int .i64 f3, .string f4, .string f5, .int .i64 f6]] (by kernel_rfl) (by (try simp only [List.map_toArray, List.map_cons, List.map_nil]); first | done | rfl) ?_
     with_reducible refine (C1.out _).mono ?_
     rintro e w2 ⟨rfl, hb2⟩
     have HB2 := am_ (bt_ HB1.out hb2)
     refine ⟨_, rfl, conf_static.S_below hHeld hb2, fun hHeld => ⟨?_, ?_, ?_⟩⟩
     rotate_left
     ·simp only [Act.put, sa_, sb_, sc_, i64_w, i32_w]
      rfl
     iterate 3 first | (refine seqP (v := ?_) (a' := ?_) rfl rfl (by kernel_rfl) (fun _ _ _ h => h) (Or.inl ⟨by kernel_rfl, ?_⟩) ?_ ?_; rotate_left; (intro w'; go_simp; with_reducible rfl); rotate_left; (simp only [Act.put, sa_, sb_, sc_, i64_w, i32_w]; rfl)) | (refine seqL (v := ?_) (a' := ?_) rfl rfl (by kernel_rfl) (fun _ _ _ h => h) (Or.inl ⟨by kernel_rfl, ?_⟩) hHeld ?_ ?_; rotate_left; (rintro w' ⟨s0, s1, s2, s3, s4, s5, s6, s7⟩; go_simp; with_reducible rfl); rotate_left; (simp only [Act.put, sa_, sb_, sc_, i64_w, i32_w]; rfl))
     cases b1 with
     | false =>
      iterate 8 (refine seqP (v := undef) (a' := ?_) rfl rfl (by kernel_rfl) (fun _ _ _ h => h) (Or.inr ⟨by kernel_rfl, rfl⟩) ?_ ?_; rotate_left; (simp only [Act.put, sa_, sb_, sc_, i64_w, i32_w]; rfl))
      iterate 2 first | (refine seqP (v := ?_) (a' := ?_) rfl rfl (by kernel_rfl) (fun _ _ _ h => h) (Or.inl ⟨by kernel_rfl, ?_⟩) ?_ ?_; rotate_left; (intro w'; go_simp; with_reducible rfl); rotate_left; (simp only [Act.put, sa_, sb_, sc_, i64_w, i32_w]; rfl)) | (refine seqL (v := ?_) (a' := ?_) rfl rfl (by kernel_rfl) (fun _ _ _ h => h) (Or.inl ⟨by kernel_rfl, ?_⟩) hHeld ?_ ?_; rotate_left; (rintro w' ⟨s0, s1, s2, s3, s4, s5, s6, s7⟩; go_simp; with_reducible rfl); rotate_left; (simp only [Act.put, sa_, sb_, sc_, i64_w, i32_w]; rfl))
      iterate 7 (refine seqP (v := undef) (a' := ?_) rfl rfl (by kernel_rfl) (fun _ _ _ h => h) (Or.inr ⟨by kernel_rfl, rfl⟩) ?_ ?_; rotate_left; (simp only [Act.put, sa_, sb_, sc_, i64_w, i32_w]; rfl))
      iterate 1 first | (refine seqP (v := ?_) (a' := ?_) rfl rfl (by kernel_rfl) (fun _ _ _ h => h) (Or.inl ⟨by kernel_rfl, ?_⟩) ?_ ?_; rotate_left; (intro w'; go_simp; with_reducible rfl); rotate_left; (simp only [Act.put, sa_, sb_, sc_, i64_w, i32_w]; rfl)) | (refine seqL (v := ?_) (a' := ?_) rfl rfl (by kernel_rfl) (fun _ _ _ h => h) (Or.inl ⟨by kernel_rfl, ?_⟩) hHeld ?_ ?_; rotate_left; (rintro w' ⟨s0, s1, s2, s3, s4, s5, s6, s7⟩; go_simp; with_reducible rfl); rotate_left; (simp only [Act.put, sa_, sb_, sc_, i64_w, i32_w]; rfl))
      refine seqE (by kernel_rfl) ?_
      go_wp2
      go_ret
      exact ⟨ret_bool (fin.out (by simp)), by repeat (with_reducible first | exact HB2.out | exact HB1.out | apply p3_ | apply p1_ | apply p2_)⟩
     | true =>
      iterate 6 first | (refine seqP (v := ?_) (a' := ?_) rfl rfl (by kernel_rfl) (fun _ _ _ h => h) (Or.inl ⟨by kernel_rfl, ?_⟩) ?_ ?_; rotate_left; (intro w'; go_simp; with_reducible rfl); rotate_left; (simp only [Act.put, sa_, sb_, sc_, i64_w, i32_w]; rfl)) | (refine seqL (v := ?_) (a' := ?_) rfl rfl (by kernel_rfl) (fun _ _ _ h => h) (Or.inl ⟨by kernel_rfl, ?_⟩) hHeld ?_ ?_; rotate_left; (rintro w' ⟨s0, s1, s2, s3, s4, s5, s6, s7⟩; go_simp; with_reducible rfl); rotate_left; (simp only [Act.put, sa_, sb_, sc_, i64_w, i32_w]; rfl))
      refine seqG (fn := Tryz.f94) rfl rfl (by kernel_rfl) rfl Tryz.func94 (by kernel_rfl) (by kernel_rfl) #[.string f0, .string z] (by kernel_rfl) (by (try simp only [List.map_toArray, List.map_cons, List.map_nil]); first | done | rfl) ?_
      with_reducible refine (C2.out _).mono ?_
      rintro e w3 ⟨rfl, ⟨nd, rfl⟩⟩
      skip
      refine ⟨_, rfl, conf_static.S_below hHeld (p1_ (Below.refl _ _) _), fun hHeld => ⟨?_, ?_, ?_⟩⟩
      rotate_left
      ·simp only [Act.put, sa_, sb_, sc_, i64_w, i32_w]
       rfl
      iterate 3 first | (refine seqP (v := ?_) (a' := ?_) rfl rfl (by kernel_rfl) (fun _ _ _ h => h) (Or.inl ⟨by kernel_rfl, ?_⟩) ?_ ?_; rotate_left; (intro w'; go_simp; with_reducible rfl); rotate_left; (simp only [Act.put, sa_, sb_, sc_, i64_w, i32_w]; rfl)) | (refine seqL (v := ?_) (a' := ?_) rfl rfl (by kernel_rfl) (fun _ _ _ h => h) (Or.inl ⟨by kernel_rfl, ?_⟩) hHeld ?_ ?_; rotate_left; (rintro w' ⟨s0, s1, s2, s3, s4, s5, s6, s7⟩; go_simp; with_reducible rfl); rotate_left; (simp only [Act.put, sa_, sb_, sc_, i64_w, i32_w]; rfl))
      cases b2 with
      | false =>
       iterate 7 (refine seqP (v := undef) (a' := ?_) rfl rfl (by kernel_rfl) (fun _ _ _ h => h) (Or.inr ⟨by kernel_rfl, rfl⟩) ?_ ?_; rotate_left; (simp only [Act.put, sa_, sb_, sc_, i64_w, i32_w]; rfl))
       iterate 1 first | (refine seqP (v := ?_) (a' := ?_) rfl rfl (by kernel_rfl) (fun _ _ _ h => h) (Or.inl ⟨by kernel_rfl, ?_⟩) ?_ ?_; rotate_left; (intro w'; go_simp; with_reducible rfl); rotate_left; (simp only [Act.put, sa_, sb_, sc_, i64_w, i32_w]; rfl)) | (refine seqL (v := ?_) (a' := ?_) rfl rfl (by kernel_rfl) (fun _ _ _ h => h) (Or.inl ⟨by kernel_rfl, ?_⟩) hHeld ?_ ?_; rotate_left; (rintro w' ⟨s0, s1, s2, s3, s4, s5, s6, s7⟩; go_simp; with_reducible rfl); rotate_left; (simp only [Act.put, sa_, sb_, sc_, i64_w, i32_w]; rfl))
       refine seqE (by kernel_rfl) ?_
       go_wp2
       go_ret
       exact ⟨ret_bool (fin.out (by simp)), by repeat (with_reducible first | exact HB2.out | exact HB1.out | apply p3_ | apply p1_ | apply p2_)⟩
      | true =>
       iterate 8 first | (refine seqP (v := ?_) (a' := ?_) rfl rfl (by kernel_rfl) (fun _ _ _ h => h) (Or.inl ⟨by kernel_rfl, ?_⟩) ?_ ?_; rotate_left; (intro w'; go_simp; with_reducible rfl); rotate_left; (simp only [Act.put, sa_, sb_, sc_, i64_w, i32_w]; rfl)) | (refine seqL (v := ?_) (a' := ?_) rfl rfl (by kernel_rfl) (fun _ _ _ h => h) (Or.inl ⟨by kernel_rfl, ?_⟩) hHeld ?_ ?_; rotate_left; (rintro w' ⟨s0, s1, s2, s3, s4, s5, s6, s7⟩; go_simp; with_reducible rfl); rotate_left; (simp only [Act.put, sa_, sb_, sc_, i64_w, i32_w]; rfl))
       refine seqE (by kernel_rfl) ?_
       generalize hq : (f0.toList == z.toList) = b3
       cases b3 with
       | true =>
        replace hq := am_ hq
        go_wp2
        go_ret
        exact ⟨ret_bool (fin.out (by simpa using hq.out)), by repeat (with_reducible first | exact HB2.out | exact HB1.out | apply p3_ | apply p1_ | apply p2_)⟩
       | false =>
        have HS2 := am_ (HN.out (by simpa using hq))
        replace hq := am_ hq
        go_wp2
        go_roundg (l0.length - (i.toNat + 1))
        case measure => first | omega | (simp; omega)
        case rel =>
         have e2 : (i + 1).toNat = i.toNat + 1 := by omega
         exact ⟨i + 1, by omega, by omega, by go_num, ⟨by repeat (with_reducible first | exact HB2.out | exact HB1.out | apply p3_ | apply p1_ | apply p2_)⟩, ⟨by rw [e2]; exact HS2.out⟩⟩
    ·refine seqS (S := conf_static.S wr.heap.size g f0 16 f2 f3 f4 f5 f6 z) 37 (by kernel_rfl) rfl rfl (by unfold conf_static.S; go_simp) ?_
     intro hHeld
     iterate 14 first | (refine seqP (v := ?_) (a' := ?_) rfl rfl (by kernel_rfl) (fun _ _ _ h => h) (Or.inl ⟨by kernel_rfl, ?_⟩) ?_ ?_; rotate_left; (intro w'; go_simp; with_reducible rfl); rotate_left; (simp only [Act.put, sa_, sb_, sc_, i64_w, i32_w]; rfl)) | (refine seqL (v := ?_) (a' := ?_) rfl rfl (by kernel_rfl) (fun _ _ _ h => h) (Or.inl ⟨by kernel_rfl, ?_⟩) hHeld ?_ ?_; rotate_left; (rintro w' ⟨s0, s1, s2, s3, s4, s5, s6, s7⟩; go_simp; with_reducible rfl); rotate_left; (simp only [Act.put, sa_, sb_, sc_, i64_w, i32_w]; rfl))
     iterate 1 first | (refine seqP (v := ?_) (a' := ?_) rfl rfl (by kernel_rfl) (fun _ _ _ h => h) (Or.inl ⟨by kernel_rfl, ?_⟩) ?_ ?_; rotate_left; (intro w'; go_simp; with_reducible rfl); rotate_left; (simp only [Act.put, sa_, sb_, sc_, i64_w, i32_w]; rfl)) | (refine seqL (v := ?_) (a' := ?_) rfl rfl (by kernel_rfl) (fun _ _ _ h => h) (Or.inl ⟨by kernel_rfl, ?_⟩) hHeld ?_ ?_; rotate_left; (rintro w' ⟨s0, s1, s2, s3, s4, s5, s6, s7⟩; go_simp; with_reducible rfl); rotate_left; (simp only [Act.put, sa_, sb_, sc_, i64_w, i32_w]; rfl))
     refine seqG (fn := Tryz.f93) rfl rfl (by kernel_rfl) rfl Tryz.func93 (by kernel_rfl) (by kernel_rfl) #[.agg #[.string f0, .int .i64 16, .int .i64 f2, .int .i64 f3, .string f4, .string f5, .int .i64 f6]] (by kernel_rfl) (by (try simp only [List.map_toArray, List.map_cons, List.map_nil]); first | done | rfl) ?_
     with_reducible refine (C1.out _).mono ?_
     rintro e w2 ⟨rfl, hb2⟩
     have HB2 := am_ (bt_ HB1.out hb2)
     refine ⟨_, rfl, conf_static.S_below hHeld hb2, fun hHeld => ⟨?_, ?_, ?_⟩⟩
     rotate_left
     ·simp only [Act.put, sa_, sb_, sc_, i64_w, i32_w]
      rfl
     iterate 3 first | (refine seqP (v := ?_) (a' := ?_) rfl rfl (by kernel_rfl) (fun _ _ _ h => h) (Or.inl ⟨by kernel_rfl, ?_⟩) ?_ ?_; rotate_left; (intro w'; go_simp; with_reducible rfl); rotate_left; (simp only [Act.put, sa_, sb_, sc_, i64_w, i32_w]; rfl)) | (refine seqL (v := ?_) (a' := ?_) rfl rfl (by kernel_rfl) (fun _ _ _ h => h) (Or.inl ⟨by kernel_rfl, ?_⟩) hHeld ?_ ?_; rotate_left; (rintro w' ⟨s0, s1, s2, s3, s4, s5, s6, s7⟩; go_simp; with_reducible rfl); rotate_left; (simp only [Act.put, sa_, sb_, sc_, i64_w, i32_w]; rfl))
     cases b1 with
     | false =>
      iterate 8 (refine seqP (v := undef) (a' := ?_) rfl rfl (by kernel_rfl) (fun _ _ _ h => h) (Or.inr ⟨by kernel_rfl, rfl⟩) ?_ ?_; rotate_left; (simp only [Act.put, sa_, sb_, sc_, i64_w, i32_w]; rfl))
      iterate 2 first | (refine seqP (v := ?_) (a' := ?_) rfl rfl (by kernel_rfl) (fun _ _ _ h => h) (Or.inl ⟨by kernel_rfl, ?_⟩) ?_ ?_; rotate_left; (intro w'; go_simp; with_reducible rfl); rotate_left; (simp only [Act.put, sa_, sb_, sc_, i64_w, i32_w]; rfl)) | (refine seqL (v := ?_) (a' := ?_) rfl rfl (by kernel_rfl) (fun _ _ _ h => h) (Or.inl ⟨by kernel_rfl, ?_⟩) hHeld ?_ ?_; rotate_left; (rintro w' ⟨s0, s1, s2, s3, s4, s5, s6, s7⟩; go_simp; with_reducible rfl); rotate_left; (simp only [Act.put, sa_, sb_, sc_, i64_w, i32_w]; rfl))
      iterate 7 (refine seqP (v := undef) (a' := ?_) rfl rfl (by kernel_rfl) (fun _ _ _ h => h) (Or.inr ⟨by kernel_rfl, rfl⟩) ?_ ?_; rotate_left; (simp only [Act.put, sa_, sb_, sc_, i64_w, i32_w]; rfl))
      iterate 1 first | (refine seqP (v := ?_) (a' := ?_) rfl rfl (by kernel_rfl) (fun _ _ _ h => h) (Or.inl ⟨by kernel_rfl, ?_⟩) ?_ ?_; rotate_left; (intro w'; go_simp; with_reducible rfl); rotate_left; (simp only [Act.put, sa_, sb_, sc_, i64_w, i32_w]; rfl)) | (refine seqL (v := ?_) (a' := ?_) rfl rfl (by kernel_rfl) (fun _ _ _ h => h) (Or.inl ⟨by kernel_rfl, ?_⟩) hHeld ?_ ?_; rotate_left; (rintro w' ⟨s0, s1, s2, s3, s4, s5, s6, s7⟩; go_simp; with_reducible rfl); rotate_left; (simp only [Act.put, sa_, sb_, sc_, i64_w, i32_w]; rfl))
      refine seqE (by kernel_rfl) ?_
      go_wp2
      go_ret
      exact ⟨ret_bool (fin.out (by simp)), by repeat (with_reducible first | exact HB2.out | exact HB1.out | apply p3_ | apply p1_ | apply p2_)⟩
     | true =>
      iterate 6 first | (refine seqP (v := ?_) (a' := ?_) rfl rfl (by kernel_rfl) (fun _ _ _ h => h) (Or.inl ⟨by kernel_rfl, ?_⟩) ?_ ?_; rotate_left; (intro w'; go_simp; with_reducible rfl); rotate_left; (simp only [Act.put, sa_, sb_, sc_, i64_w, i32_w]; rfl)) | (refine seqL (v := ?_) (a' := ?_) rfl rfl (by kernel_rfl) (fun _ _ _ h => h) (Or.inl ⟨by kernel_rfl, ?_⟩) hHeld ?_ ?_; rotate_left; (rintro w' ⟨s0, s1, s2, s3, s4, s5, s6, s7⟩; go_simp; with_reducible rfl); rotate_left; (simp only [Act.put, sa_, sb_, sc_, i64_w, i32_w]; rfl))
      refine seqG (fn := Tryz.f94) rfl rfl (by kernel_rfl) rfl Tryz.func94 (by kernel_rfl) (by kernel_rfl) #[.string f0, .string z] (by kernel_rfl) (by (try simp only [List.map_toArray, List.map_cons, List.map_nil]); first | done | rfl) ?_
      with_reducible refine (C2.out _).mono ?_
      rintro e w3 ⟨rfl, ⟨nd, rfl⟩⟩
      skip
      refine ⟨_, rfl, conf_static.S_below hHeld (p1_ (Below.refl _ _) _), fun hHeld => ⟨?_, ?_, ?_⟩⟩
      rotate_left
      ·simp only [Act.put, sa_, sb_, sc_, i64_w, i32_w]
       rfl
      iterate 3 first | (refine seqP (v := ?_) (a' := ?_) rfl rfl (by kernel_rfl) (fun _ _ _ h => h) (Or.inl ⟨by kernel_rfl, ?_⟩) ?_ ?_; rotate_left; (intro w'; go_simp; with_reducible rfl); rotate_left; (simp only [Act.put, sa_, sb_, sc_, i64_w, i32_w]; rfl)) | (refine seqL (v := ?_) (a' := ?_) rfl rfl (by kernel_rfl) (fun _ _ _ h => h) (Or.inl ⟨by kernel_rfl, ?_⟩) hHeld ?_ ?_; rotate_left; (rintro w' ⟨s0, s1, s2, s3, s4, s5, s6, s7⟩; go_simp; with_reducible rfl); rotate_left; (simp only [Act.put, sa_, sb_, sc_, i64_w, i32_w]; rfl))
      cases b2 with
      | false =>
       iterate 7 (refine seqP (v := undef) (a' := ?_) rfl rfl (by kernel_rfl) (fun _ _ _ h => h) (Or.inr ⟨by kernel_rfl, rfl⟩) ?_ ?_; rotate_left; (simp only [Act.put, sa_, sb_, sc_, i64_w, i32_w]; rfl))
       iterate 1 first | (refine seqP (v := ?_) (a' := ?_) rfl rfl (by kernel_rfl) (fun _ _ _ h => h) (Or.inl ⟨by kernel_rfl, ?_⟩) ?_ ?_; rotate_left; (intro w'; go_simp; with_reducible rfl); rotate_left; (simp only [Act.put, sa_, sb_, sc_, i64_w, i32_w]; rfl)) | (refine seqL (v := ?_) (a' := ?_) rfl rfl (by kernel_rfl) (fun _ _ _ h => h) (Or.inl ⟨by kernel_rfl, ?_⟩) hHeld ?_ ?_; rotate_left; (rintro w' ⟨s0, s1, s2, s3, s4, s5, s6, s7⟩; go_simp; with_reducible rfl); rotate_left; (simp only [Act.put, sa_, sb_, sc_, i64_w, i32_w]; rfl))
       refine seqE (by kernel_rfl) ?_
       go_wp2
       go_ret
       exact ⟨ret_bool (fin.out (by simp)), by repeat (with_reducible first | exact HB2.out | exact HB1.out | apply p3_ | apply p1_ | apply p2_)⟩
      | true =>
       iterate 8 first | (refine seqP (v := ?_) (a' := ?_) rfl rfl (by kernel_rfl) (fun _ _ _ h => h) (Or.inl ⟨by kernel_rfl, ?_⟩) ?_ ?_; rotate_left; (intro w'; go_simp; with_reducible rfl); rotate_left; (simp only [Act.put, sa_, sb_, sc_, i64_w, i32_w]; rfl)) | (refine seqL (v := ?_) (a' := ?_) rfl rfl (by kernel_rfl) (fun _ _ _ h => h) (Or.inl ⟨by kernel_rfl, ?_⟩) hHeld ?_ ?_; rotate_left; (rintro w' ⟨s0, s1, s2, s3, s4, s5, s6, s7⟩; go_simp; with_reducible rfl); rotate_left; (simp only [Act.put, sa_, sb_, sc_, i64_w, i32_w]; rfl))
       refine seqE (by kernel_rfl) ?_
       generalize hq : (f0.toList == z.toList) = b3
       cases b3 with
       | true =>
        replace hq := am_ hq
        go_wp2
        go_ret
        exact ⟨ret_bool (fin.out (by simpa using hq.out)), by repeat (with_reducible first | exact HB2.out | exact HB1.out | apply p3_ | apply p1_ | apply p2_)⟩
       | false =>
        have HS2 := am_ (HN.out (by simpa using hq))
        replace hq := am_ hq
        go_wp2
        go_roundg (l0.length - (i.toNat + 1))
        case measure => first | omega | (simp; omega)
        case rel =>
         have e2 : (i + 1).toNat = i.toNat + 1 := by omega
         exact ⟨i + 1, by omega, by omega, by go_num, ⟨by repeat (with_reducible first | exact HB2.out | exact HB1.out | apply p3_ | apply p1_ | apply p2_)⟩, ⟨by rw [e2]; exact HS2.out⟩⟩
   ·have q1 : (f1 != 1) = true := by simp; omega
    have q5 : (f1 != 5) = true := by simp; omega
    have q16 : (f1 != 16) = true := by simp; omega
    have ff := fin (by unfold staticB; rw [decide_eq_false qk]; rfl)
    replace ff := am_ ff
    clear qk hsz fin HN
    go_wp2_with fail
    go_quiet (fail)
    go_wp2
    go_ret
    exact ⟨ret_bool ff.out, by repeat (with_reducible first | exact HB.out | apply p3_ | apply p1_ | apply p2_)⟩
  ·have e3 : l0.drop i.toNat = [] := List.drop_eq_nil_of_le (by omega)
   have HE := am_ (show l0.all (staticB z) = true by rw [HS.out, e3]; rfl)
   clear HS
   go_wp2
   go_ret
   refine ⟨ret_bool ?_, HB.out⟩
   rw [← e4.out, HE.out, Bool.true_and]
   exact decide_eq_decide.2 (by omega)

/-! ### conf_May: function 61 -/
-- BY HAND
def conf_May.f (a0_0 : Int) (a0_1 : Int) (l0_2 : List Int) (l0_3 : List S81) (a0_4 : Int) (a0_5 : ByteArray) (l0_6 : List S83) : Option Bool := if confFit l0_2 l0_3 a0_5 l0_6 then some (confB a0_0 a0_1 l0_2 l0_3 a0_4 a0_5 l0_6) else none
set_option maxHeartbeats 8000000 in
set_option maxRecDepth 100000 in
theorem conf_May.calls (a0_0 : Int) (a0_1 : Int) (A0_2 : Option Addr) (c0_2 : Nat) (l0_2 : List Int) (A0_3 : Option Addr) (c0_3 : Nat) (l0_3 : List S81) (a0_4 : Int) (a0_5 : ByteArray) (A0_6 : Option Addr) (c0_6 : Nat) (l0_6 : List S83) (r : Bool) (w : World) (hr0_2 : Kd.C (Kd.int .i64) w A0_2 l0_2.length l0_2) (hc0_2 : l0_2.length ≤ c0_2) (hr0_3 : Kd.C k81 w A0_3 l0_3.length l0_3) (hc0_3 : l0_3.length ≤ c0_3) (hr0_6 : Kd.C k83 w A0_6 l0_6.length l0_6) (hc0_6 : l0_6.length ≤ c0_6) (h : conf_May.f a0_0 a0_1 l0_2 l0_3 a0_4 a0_5 l0_6 = some r) :
  Calls Tryz.prog 61 #[.agg #[.int .i64 a0_0, .int .i64 a0_1, .slice A0_2 l0_2.length c0_2, .slice A0_3 l0_3.length c0_3, .int .i64 a0_4, .string a0_5, .slice A0_6 l0_6.length c0_6]] w fun e w' => e = .returned (.bool r) ∧ Below w.heap.size w w' := by
 unfold conf_May.f at h
 by_cases hs : confFit l0_2 l0_3 a0_5 l0_6
 rotate_left
 ·rw [if_neg hs] at h
  cases h
 rw [if_pos hs] at h
 have HR := am_ (e5_ h)
 obtain ⟨f2, f3, fz, f6, fx⟩ := hs
 obtain ⟨n5, h5⟩ : ∃ b, nameB (bytesOf a0_5) = b := ⟨_, rfl⟩
 obtain ⟨L, hL⟩ : ∃ b, labelsS a0_5 = b := ⟨_, rfl⟩
 obtain ⟨b2, hb2⟩ : ∃ b, hostsB a0_0 a0_1 l0_2 8 = b := ⟨_, rfl⟩
 obtain ⟨b3, hb3⟩ : ∃ b, reservedB a0_0 a0_1 l0_3 = b := ⟨_, rfl⟩
 obtain ⟨b6, hb6⟩ : ∃ b, staticsB a0_5 l0_6 = b := ⟨_, rfl⟩
 have CN := am_ (fun W => name_May_c.calls a0_5 n5 W (by unfold name_May_c.f; rw [if_pos (by omega), h5]))
 have CL := am_ (fun W => name_Labels_c.calls a0_5 L W (by unfold name_Labels_c.f; rw [if_pos (by omega), hL]))
 have CH := am_ (fun W (bk : W.heap[w.heap.size]? = some (.cells #[.int .i64 a0_0, .int .i64 a0_1, .slice A0_2 l0_2.length c0_2, .slice A0_3 l0_3.length c0_3, .int .i64 a0_4, .string a0_5, .slice A0_6 l0_6.length c0_6] 26)) (hb : Below w.heap.size w W) (h2 : 2 ≤ a0_0 ∧ a0_1 ≤ 254) => by have := conf_hosts.calls w.heap.size a0_0 a0_1 A0_2 c0_2 l0_2 8 W ((bc_ bk 0).trans rfl) ((bc_ bk 1).trans rfl) h2 (c4_ hr0_2 hb) f2; rw [hb2] at this; exact this)
 have CR := am_ (fun W (bk : W.heap[w.heap.size]? = some (.cells #[.int .i64 a0_0, .int .i64 a0_1, .slice A0_2 l0_2.length c0_2, .slice A0_3 l0_3.length c0_3, .int .i64 a0_4, .string a0_5, .slice A0_6 l0_6.length c0_6] 26)) (hb : Below w.heap.size w W) (h2 : 2 ≤ a0_0 ∧ a0_1 ≤ 254) => by have := conf_reserved.calls w.heap.size a0_0 a0_1 A0_3 c0_3 l0_3 W ((bc_ bk 0).trans rfl) ((bc_ bk 1).trans rfl) ((bc_ bk 3).trans rfl) h2 (c4_ hr0_3 hb) f3; rw [hb3] at this; exact this)
 have CS := am_ (fun W (bk : W.heap[w.heap.size]? = some (.cells #[.int .i64 a0_0, .int .i64 a0_1, .slice A0_2 l0_2.length c0_2, .slice A0_3 l0_3.length c0_3, .int .i64 a0_4, .string a0_5, .slice A0_6 l0_6.length c0_6] 26)) (hb : Below w.heap.size w W) => by have := conf_static.calls w.heap.size a0_5 A0_6 c0_6 l0_6 W ((bc_ bk 5).trans rfl) ((bc_ bk 6).trans rfl) (c4_ hr0_6 hb) f6 (by omega) (fun x hx => by have := fx x hx; omega); rw [hb6] at this; exact this)
 have HR2 := am_ (show (decide (2 ≤ a0_0 ∧ a0_0 ≤ a0_1 ∧ a0_1 ≤ 254 ∧ a0_1 - a0_0 < 8) && (decide (a0_5.toList ≠ []) && (n5 && decide (L.length ≤ 4))) && (decide (1 ≤ a0_4 ∧ a0_4 ≤ 1048576) && (b2 && (b3 && b6)))) = r by rw [← HR.out, ← h5, ← hL, ← hb2, ← hb3, ← hb6]; rfl)
 have HB := am_ (Below.refl w.heap.size w)
 have BK := am_ (blk_new w (.cells #[.int .i64 a0_0, .int .i64 a0_1, .slice A0_2 l0_2.length c0_2, .slice A0_3 l0_3.length c0_3, .int .i64 a0_4, .string a0_5, .slice A0_6 l0_6.length c0_6] 26))
 clear h h5 hL hb2 hb3 hb6 HR f2 f3 fz f6 fx hr0_2 hr0_3 hr0_6 hc0_2 hc0_3 hc0_6
 go_enter Tryz.func61, Tryz.ntmps61
 go_wp2_with (first
  | (go_at_call 78; (with_reducible refine (CN.out _).mono ?_); rintro e w1 ⟨rfl, ⟨nd, rfl⟩⟩)
  | (go_at_call 79; (with_reducible refine (CL.out _).mono ?_); rintro e w2 ⟨v, rfl, hR, hb2⟩; obtain ⟨A, c, rfl, hcl, hCl⟩ := Kd.R_reads hR; clear hcl hCl hR; replace BK := am_ (kb_ (show _ from by (with_reducible repeat (first | refine k2_ ?_ _ | refine k3_ ?_ | refine k1_ ?_ _)); exact BK.out) hb2); replace HB := am_ (bt_ (show Below w.heap.size w _ by repeat (with_reducible first | exact HB.out | apply p3_ | apply p1_ | apply p2_)) hb2); clear hb2; have u0 := bc_ BK.out 0; have u1 := bc_ BK.out 1; have u2 := bc_ BK.out 2; have u3 := bc_ BK.out 3; have u4 := bc_ BK.out 4; have u5 := bc_ BK.out 5; have u6 := bc_ BK.out 6)
  | (go_at_call 80; (with_reducible refine (CH.out _ (by (with_reducible repeat (first | refine k2_ ?_ _ | refine k3_ ?_ | refine k1_ ?_ _)); exact BK.out) (by repeat (with_reducible first | exact HB.out | apply p3_ | apply p1_ | apply p2_)) (by omega)).mono ?_); rintro e w3 ⟨rfl, hb2⟩; replace BK := am_ (kb_ (show _ from (by (with_reducible repeat (first | refine k2_ ?_ _ | refine k3_ ?_ | refine k1_ ?_ _)); exact BK.out)) hb2); replace HB := am_ (bt_ (show Below w.heap.size w _ from (by repeat (with_reducible first | exact HB.out | apply p3_ | apply p1_ | apply p2_))) hb2); clear hb2)
  | (go_at_call 81; (with_reducible refine (CR.out _ (by (with_reducible repeat (first | refine k2_ ?_ _ | refine k3_ ?_ | refine k1_ ?_ _)); exact BK.out) (by repeat (with_reducible first | exact HB.out | apply p3_ | apply p1_ | apply p2_)) (by omega)).mono ?_); rintro e w4 ⟨rfl, hb2⟩; replace BK := am_ (kb_ (show _ from (by (with_reducible repeat (first | refine k2_ ?_ _ | refine k3_ ?_ | refine k1_ ?_ _)); exact BK.out)) hb2); replace HB := am_ (bt_ (show Below w.heap.size w _ from (by repeat (with_reducible first | exact HB.out | apply p3_ | apply p1_ | apply p2_))) hb2); clear hb2)
  | (go_at_call 82; (with_reducible refine (CS.out _ (by (with_reducible repeat (first | refine k2_ ?_ _ | refine k3_ ?_ | refine k1_ ?_ _)); exact BK.out) (by repeat (with_reducible first | exact HB.out | apply p3_ | apply p1_ | apply p2_))).mono ?_); rintro e w5 ⟨rfl, hb2⟩; replace BK := am_ (kb_ (show _ from (by (with_reducible repeat (first | refine k2_ ?_ _ | refine k3_ ?_ | refine k1_ ?_ _)); exact BK.out)) hb2); replace HB := am_ (bt_ (show Below w.heap.size w _ from (by repeat (with_reducible first | exact HB.out | apply p3_ | apply p1_ | apply p2_))) hb2); clear hb2))
 all_goals go_ret
 all_goals refine ⟨ret_bool ?_, ?_⟩
 all_goals first
  | ((repeat (with_reducible first | exact HB.out | apply p3_ | apply p1_ | apply p2_)); done)
  | (rw [← HR2.out]; clear HR2 CN CL CH CR CS; simp [*] <;> omega)
  | (have q0 : a0_5.toList.isEmpty = false := (by simpa using (show ¬ a0_5.toList = [] by assumption)); rw [← HR2.out, decide_eq_true (show 2 ≤ a0_0 ∧ a0_0 ≤ a0_1 ∧ a0_1 ≤ 254 ∧ a0_1 - a0_0 < 8 by omega), decide_eq_true (show a0_5.toList ≠ [] by assumption), decide_eq_true (show L.length ≤ 4 by omega), decide_eq_true (show 1 ≤ a0_4 ∧ a0_4 ≤ 1048576 by omega)]; simp only [*, q0, Bool.not_false, Bool.true_and])

/-! ### pick_May: function 38 -/
-- BY HAND
-- 61 54 47 62
set_option maxHeartbeats 8000000 in
set_option maxRecDepth 100000 in
theorem pick_May.calls (g : Nat) (a0_0 : Int) (a0_1 : Int) (A0_2 : Option Addr) (c0_2 : Nat) (l0_2 : List Int) (A0_3 : Option Addr) (c0_3 : Nat) (l0_3 : List S81) (a0_4 : Int) (a0_5 : ByteArray) (A0_6 : Option Addr) (c0_6 : Nat) (l0_6 : List S83) (A1 : Option Addr) (c1 : Nat) (l1 : List S44) (a2 : Int) (a3 : ByteArray) (r : Bool) (w : World) (bk : w.heap[g]? = some (.cells #[.int .i64 a0_0, .int .i64 a0_1, .slice A0_2 l0_2.length c0_2, .slice A0_3 l0_3.length c0_3, .int .i64 a0_4, .string a0_5, .slice A0_6 l0_6.length c0_6] 26)) (hr0_2 : Kd.C (Kd.int .i64) w A0_2 l0_2.length l0_2) (hc0_2 : l0_2.length ≤ c0_2) (hr0_3 : Kd.C k81 w A0_3 l0_3.length l0_3) (hc0_3 : l0_3.length ≤ c0_3) (hr0_6 : Kd.C k83 w A0_6 l0_6.length l0_6) (hc0_6 : l0_6.length ≤ c0_6) (hr1 : Kd.C k44 w A1 l1.length l1) (hc1 : l1.length ≤ c1) (hs : pickFit l0_2 l0_3 a0_5 l0_6 l1) (h : pickMayB a0_0 a0_1 l0_2 l0_3 a0_4 a0_5 l0_6 l1 a2 a3 = r) :
  Calls Tryz.prog 38 #[.pointer (some ⟨g, 0, none⟩), .slice A1 l1.length c1, .int .i64 a2, .string a3] w fun e w' => e = .returned (.bool r) ∧ Below w.heap.size w w' := by
 unfold pickMayB at h
 obtain ⟨b1, h1⟩ : ∃ b, confB a0_0 a0_1 l0_2 l0_3 a0_4 a0_5 l0_6 = b := ⟨_, rfl⟩
 obtain ⟨b2, h2⟩ : ∃ b, tableB l1 = b := ⟨_, rfl⟩
 obtain ⟨b3, h3⟩ : ∃ b, decide (0 ≤ a2 ∧ a2 ≤ 1099511627776) = b := ⟨_, rfl⟩
 obtain ⟨b4, h4⟩ : ∃ b, clientB a3 = b := ⟨_, rfl⟩
 rw [h1, h2, h3, h4] at h
 have C1 := am_ (fun W (hb : Below w.heap.size w W) => conf_May.calls a0_0 a0_1 A0_2 c0_2 l0_2 A0_3 c0_3 l0_3 a0_4 a0_5 A0_6 c0_6 l0_6 b1 W (c4_ hr0_2 hb) hc0_2 (c4_ hr0_3 hb) hc0_3 (c4_ hr0_6 hb) hc0_6 (by unfold conf_May.f; rw [if_pos hs.1, h1]))
 have C2 := am_ (fun W (hb : Below w.heap.size w W) => table_May_c.calls A1 c1 l1 b2 W (c4_ hr1 hb) hc1 (by unfold table_May_c.f; rw [if_pos hs.2, h2]))
 have C3 := am_ (fun W => lease_Time_c.calls a2 b3 W (by unfold lease_Time_c.f; rw [h3]))
 have C4 := am_ (fun W => ident_May_c.calls a3 b4 W (by unfold ident_May_c.f; rw [h4]))
 have HR := am_ h
 have HB := am_ (Below.refl w.heap.size w)
 have u0 := bc_ (am_ bk).out 0
 have u1 := bc_ (am_ bk).out 1
 have u2 := bc_ (am_ bk).out 2
 have u3 := bc_ (am_ bk).out 3
 have u4 := bc_ (am_ bk).out 4
 have u5 := bc_ (am_ bk).out 5
 have u6 := bc_ (am_ bk).out 6
 clear h h1 h2 h3 h4 bk hr0_2 hr0_3 hr0_6 hc0_2 hc0_3 hc0_6 hr1 hc1 hs
 go_enter Tryz.func38, Tryz.ntmps38
 go_wp2_with (first
  | (go_at_call 61; (with_reducible refine (C1.out _ (by repeat (with_reducible first | exact HB.out | apply p3_ | apply p1_ | apply p2_))).mono ?_); rintro e w1 ⟨rfl, hb2⟩; replace HB := am_ (bt_ (show Below w.heap.size w _ from (by repeat (with_reducible first | exact HB.out | apply p3_ | apply p1_ | apply p2_))) hb2); clear hb2; clear u0 u1 u2 u3 u4 u5 u6)
  | (go_at_call 54; (with_reducible refine (C2.out _ (by repeat (with_reducible first | exact HB.out | apply p3_ | apply p1_ | apply p2_))).mono ?_); rintro e w2 ⟨rfl, hb2⟩; replace HB := am_ (bt_ (show Below w.heap.size w _ from (by repeat (with_reducible first | exact HB.out | apply p3_ | apply p1_ | apply p2_))) hb2); clear hb2)
  | (go_at_call 47; (with_reducible refine (C3.out _).mono ?_); rintro e wq ⟨rfl, ⟨nd, rfl⟩⟩)
  | (go_at_call 62; (with_reducible refine (C4.out _).mono ?_); rintro e wq ⟨rfl, ⟨nd, rfl⟩⟩))
 all_goals (try go_ret)
 all_goals refine ⟨ret_bool ?_, ?_⟩
 all_goals first
  | ((repeat (with_reducible first | exact HB.out | apply p3_ | apply p1_ | apply p2_)); done)
  | (rw [← HR.out]; clear HR HB C1 C2 C3 C4; rw [Bool.eq_iff_iff]; (simp_all; done))
  | (rw [← HR.out]; clear HR HB C1 C2 C3 C4; simp_all)

/-! ### lease_Live: function 44 -/
-- BY HAND
def lease_Live.f (a0_0 : Int) (a0_1 : Int) (a0_2 : ByteArray) (a0_3 : Int) (a0_4 : ByteArray) (a0_5 : Bool) (a1 : Int) : Option Bool := if a0_4.size ≤ 140737488351232 then some (liveB a0_0 a0_1 a0_2 a0_3 a0_4 a0_5 a1) else none
set_option maxHeartbeats 8000000 in
set_option maxRecDepth 100000 in
theorem lease_Live.calls (a0_0 : Int) (a0_1 : Int) (a0_2 : ByteArray) (a0_3 : Int) (a0_4 : ByteArray) (a0_5 : Bool) (a1 : Int) (r : Bool) (w : World) (h : lease_Live.f a0_0 a0_1 a0_2 a0_3 a0_4 a0_5 a1 = some r) :
  Calls Tryz.prog 44 #[.agg #[.int .i64 a0_0, .int .i64 a0_1, .string a0_2, .int .i64 a0_3, .string a0_4, .bool a0_5], .int .i64 a1] w fun e w' => e = .returned (.bool r) ∧ Below w.heap.size w w' := by
 unfold lease_Live.f at h
 by_cases hs : a0_4.size ≤ 140737488351232
 rotate_left
 ·rw [if_neg hs] at h
  cases h
 rw [if_pos hs] at h
 have HR := e5_ h
 unfold liveB at HR
 obtain ⟨b1, h1⟩ : ∃ b, leaseB a0_0 a0_1 a0_2 a0_3 a0_4 a0_5 = b := ⟨_, rfl⟩
 rw [h1] at HR
 have C1 := am_ (fun W => lease_May.calls a0_0 a0_1 a0_2 a0_3 a0_4 a0_5 b1 W (by unfold lease_May.f; rw [if_pos hs, h1]))
 have BK := am_ (blk_new w (.cells #[.int .i64 a0_0, .int .i64 a0_1, .string a0_2, .int .i64 a0_3, .string a0_4, .bool a0_5] 44))
 have HB := am_ (Below.refl w.heap.size w)
 replace HR := am_ HR
 clear h hs h1
 go_enter Tryz.func44, Tryz.ntmps44
 go_wp2_with (first
  | (go_at_call 69; (with_reducible refine (C1.out _).mono ?_); rintro e w1 ⟨rfl, hb2⟩; replace BK := am_ (kb_ (show _ from (by (with_reducible repeat (first | exact BK.out | refine k2_ ?_ _ | refine k3_ ?_ | refine k1_ ?_ _)))) hb2); replace HB := am_ (bt_ (show Below w.heap.size w _ by repeat (with_reducible first | exact HB.out | apply p3_ | apply p1_ | apply p2_)) hb2); clear hb2; have u0 := bc_ BK.out 0; have u1 := bc_ BK.out 1; have u2 := bc_ BK.out 2; have u3 := bc_ BK.out 3; have u4 := bc_ BK.out 4; have u5 := bc_ BK.out 5))
 all_goals (try go_ret)
 all_goals refine ⟨ret_bool ?_, ?_⟩
 all_goals first
  | ((repeat (with_reducible first | exact HB.out | apply p3_ | apply p1_ | apply p2_)); done)
  | (rw [← HR.out]; clear HR HB C1 BK; (try clear v0 v1 v2 v3 v4 v5); (try clear u0 u1 u2 u3 u4 u5); rw [Bool.eq_iff_iff]; (simp_all; done))
  | (rw [← HR.out]; clear HR HB C1 BK; simp_all <;> omega)

/-! ### lease_Holds: function 48 -/
-- BY HAND
set_option maxHeartbeats 8000000 in
set_option maxRecDepth 100000 in
theorem lease_Holds.calls (g : Nat) (s0 s1 : Int) (s2 : ByteArray) (s3 : Int) (s4 : ByteArray) (s5 : Bool) (c : ByteArray) (now : Int) (r : Bool) (w : World) (hb : w.heap[g]? = some (.cells #[.int .i64 s0, .int .i64 s1, .string s2, .int .i64 s3, .string s4, .bool s5] 44)) (hs : s4.size ≤ 140737488351232) (h : holdsB s0 s1 s2 s3 s4 s5 c now = r) :
  Calls Tryz.prog 48 #[.pointer (some ⟨g, 0, none⟩), .string c, .int .i64 now] w fun e w' => e = .returned (.bool r) ∧ Below w.heap.size w w' := by
 unfold holdsB at h
 obtain ⟨b1, h1⟩ : ∃ b, liveB s0 s1 s2 s3 s4 s5 now = b := ⟨_, rfl⟩
 rw [h1] at h
 have C1 := am_ (fun W => lease_Live.calls s0 s1 s2 s3 s4 s5 now b1 W (by unfold lease_Live.f; rw [if_pos hs, h1]))
 have HR := am_ h
 have HB := am_ (Below.refl w.heap.size w)
 have BK := am_ hb
 have v0 := bc_ hb 0
 have v1 := bc_ hb 1
 have v2 := bc_ hb 2
 have v3 := bc_ hb 3
 have v4 := bc_ hb 4
 have v5 := bc_ hb 5
 clear h hb hs h1
 go_enter Tryz.func48, Tryz.ntmps48
 go_wp2_with (first
  | (go_at_call 44; (with_reducible refine (C1.out _).mono ?_); rintro e w1 ⟨rfl, hb2⟩; replace BK := am_ (kb_ (show _ from (by (with_reducible repeat (first | exact BK.out | refine k2_ ?_ _ | refine k3_ ?_ | refine k1_ ?_ _)))) hb2); replace HB := am_ (bt_ (show Below w.heap.size w _ by repeat (with_reducible first | exact HB.out | apply p3_ | apply p1_ | apply p2_)) hb2); clear hb2; have u0 := bc_ BK.out 0; have u1 := bc_ BK.out 1; have u2 := bc_ BK.out 2; have u3 := bc_ BK.out 3; have u4 := bc_ BK.out 4; have u5 := bc_ BK.out 5))
 all_goals (try go_ret)
 all_goals refine ⟨ret_bool ?_, ?_⟩
 all_goals first
  | ((repeat (with_reducible first | exact HB.out | apply p3_ | apply p1_ | apply p2_)); done)
  | (rw [← HR.out]; clear HR HB C1 BK; (try clear v0 v1 v2 v3 v4 v5); (try clear u0 u1 u2 u3 u4 u5); rw [Bool.eq_iff_iff]; (simp_all; done))
  | (rw [← HR.out]; clear HR HB C1 BK; simp_all <;> omega)

end Go.Proofs.YtdhckibkljafgaaGreatDoor.PI
