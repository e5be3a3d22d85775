-- Made by wip/pr.py out of the translation (a turned copy of the kit's print; contracts by hand where said).
import Derived.Test.YtpfanafggmkejaaPIdentSamex0
namespace Go.Proofs.Ytpfanafggmkejaa.PIdentSame
open Go.RowKit Go.Proofs.YtpfanafggmkejaaW.PrintWords Go.Proofs.YtpfanafggmkejaaW.PrintLast Go.Proofs.YtpfanafggmkejaaW.PrintMore
attribute [local go_sem] max2_int min2_int max_two min_two max_three min_three max_four min_four   -- for this text's walks alone
set_option linter.unusedVariables false
set_option linter.unusedSimpArgs false

/-! ### pinfoldlaw0_Num: function 20 -/
def pinfoldlaw0_Num.f (a0 : Int) : Option (Int) := some a0
set_option maxHeartbeats 8000000 in
set_option maxRecDepth 100000 in
theorem pinfoldlaw0_Num.calls (a0 : Int) (r : Int) (w : World) (h : pinfoldlaw0_Num.f a0 = some r) :
    Calls Try.prog 20 #[.int .i64 a0] w fun e w' => e = .returned (.int .i64 r) ∧ Drawn0 w w' := by
  have H : (some a0) = some r := h
  clear h
  obtain rfl := Option.some.inj H
  go_enter Try.func20, Try.ntmps20
  go_wp2
  go_ret
  exact ⟨by first | rfl | (simp; done) | (simp [*]; done), by repeat (first | exact Drawn0.refl _ | apply Drawn0.step)⟩

-- NOT PRINTED: function 70 (be_Fits)

-- NOT PRINTED: function 69 (packet_May_1)

/-! ### opts_May: function 71 -/
-- BY HAND
/-- the codes that a map holds. -/
def opts_May.D (cs : List Int) : DataW Unit := cs.foldl (fun D c => D.put (.int .i64 c) (.lit (.bool true))) (.map [])
theorem opts_May.D_snoc (cs : List Int) (c : Int) : opts_May.D (cs ++ [c]) = (opts_May.D cs).put (.int .i64 c) (.lit (.bool true)) := by
  unfold opts_May.D
  rw [List.foldl_append]
  rfl
theorem opts_May.fold_at (c : Int) : ∀ (cs : List Int) (M : DataW Unit), Maps.IsMap M → (cs.foldl (fun D c => D.put (.int .i64 c) (.lit (.bool true))) M).atKey (.int .i64 c) (.lit (.bool false)) = if c ∈ cs then .lit (.bool true) else M.atKey (.int .i64 c) (.lit (.bool false))
  | [], M, _ => by simp
  | d :: cs, M, h => by
    rw [List.foldl_cons, opts_May.fold_at c cs _ (h.put _ _)]
    by_cases hc : c ∈ cs
    · rw [if_pos hc, if_pos (List.mem_cons_of_mem _ hc)]
    · rw [if_neg hc]
      by_cases hd : c = d
      · subst hd
        rw [if_pos List.mem_cons_self, Maps.atKey_put_same h (by trivial)]
      · rw [if_neg (by simp [hd, hc]), Maps.atKey_put_other (by simp [hd])]
theorem opts_May.D_at (cs : List Int) (c : Int) : (opts_May.D cs).atKey (.int .i64 c) (.lit (.bool false)) = .lit (.bool (decide (c ∈ cs))) := by
  unfold opts_May.D
  rw [opts_May.fold_at c cs _ Maps.isMap_empty]
  by_cases hc : c ∈ cs
  · rw [if_pos hc, decide_eq_true hc]
  · rw [if_neg hc, decide_eq_false hc]
    rfl
theorem opts_May.bool_inv {P : Program} {e : TypeId} (he : P.underlying e = some .bool) {v : Value} {z : DataW Unit × List MemPlace} (h : plainElem P e v = some z) : ∃ x, v = .bool x ∧ z = (.lit (.bool x), []) := by
  unfold plainElem at h
  rw [he] at h
  cases v <;> simp at h
  exact ⟨_, rfl, h.symm⟩
/-- block b is a map of these codes. -/
def opts_May.Own (w : World) (b n : Nat) (cs : List Int) : Prop := w.ownsMap Try.prog 3 (plainElem (H := Unit) Try.prog 4) b n (opts_May.D cs)
theorem opts_May.zero (w : World) : (zeroValue 4).run Try.prog w = .ok (.bool false) w := by kernel_rfl
theorem opts_May.Own.look {w : World} {b n : Nat} {cs : List Int} (h : opts_May.Own w b n cs) {c : Int} (h0 : 0 < c) (h1 : c < 255) :
    (Instr.lookup 112 (.map (some b)) (.int .i64 c) false).run Try.prog w = .ok (.bool (decide (c ∈ cs))) w := by
  obtain ⟨v, ps, hrun, hv⟩ := World.ownsMap.lookup h (Maps.int_keyed Try.underlying3) Try.underlying112 (opts_May.zero w) (plainElem_bool Try.underlying4 false) (Maps.keyOf_int_mk Try.underlying3 (a := c) (WalkArith.wf_i64 (by omega)))
  obtain ⟨x, rfl, e⟩ := opts_May.bool_inv Try.underlying4 hv
  rw [opts_May.D_at] at e
  obtain ⟨rfl, _⟩ : decide (c ∈ cs) = x ∧ ps = [] := by simpa using e
  exact hrun
/-- the options' codes: each in its range, none twice; no data too long. -/
def opts_May.go : List Int → List S65 → Bool
  | _, [] => true
  | cs, x :: r => if 0 < x.f0 ∧ x.f0 < 255 ∧ x.f0 ∉ cs ∧ x.f1.size ≤ 512 then opts_May.go (cs ++ [x.f0]) r else false
def opts_May.f (l0 : List S65) : Option Bool := if l0.length ≤ 140737488351232 then some (opts_May.go [] l0 && decide (l0.length ≤ 32)) else none
theorem opts_May.drop (l0 : List S65) (i : Int) (h0 : 0 ≤ i) (h1 : i < l0.length) : l0.drop i.toNat = rd_T65 l0 i :: l0.drop (i.toNat + 1) := by
  have h : i.toNat < l0.length := by omega
  rw [List.drop_eq_getElem_cons h]
  unfold rd_T65
  rw [List.getD_eq_getElem?_getD, List.getElem?_eq_getElem h]
  rfl
set_option maxHeartbeats 8000000 in
set_option maxRecDepth 100000 in
theorem opts_May.calls (A0 : Option Addr) (c0 : Nat) (l0 : List (S65)) (r : Bool) (w : World) (hr0 : Kd.C k65 w A0 l0.length l0) (hc0 : l0.length ≤ c0) (h : opts_May.f l0 = some r) :
    Calls Try.prog 71 #[.slice A0 l0.length c0] w fun e w' => e = .returned (.bool r) ∧ Below w.heap.size w w' := by
  unfold opts_May.f at h
  by_cases hs : l0.length ≤ 140737488351232
  · rw [if_pos hs] at h
    obtain rfl := Option.some.inj h
    clear h
    have HR0 := Aside0.mk hr0
    clear hr0 hc0
    have hmm := @run_makeMap Try.prog
    go_enter Try.func71, Try.ntmps71
    go_wp2
    clear hmm
    go_loopg [9] l0.length (fun d v9 w' => ∃ (i : Int) (cs : List Int), 0 ≤ i ∧ i.toNat + d = l0.length ∧ v9 = .int .i64 i ∧ Aside0 (opts_May.Own w' w.heap.size i.toNat cs) ∧ Aside0 (Below w.heap.size w w') ∧ Aside0 (opts_May.go [] l0 = opts_May.go cs (l0.drop i.toNat)))
    case atStart => exact ⟨0, [], by omega, by simp, rfl, ⟨World.ownsMap_made _ _ _ _⟩, ⟨(Below.refl _ _).alloc (Nat.le_refl _) _⟩, ⟨rfl⟩⟩
    case round =>
      obtain ⟨i, cs, hi0, hd, rfl, HM, HB, HS⟩ := hrel
      by_cases hlt : i < (l0.length : Int)
      · obtain ⟨ad, e1, hx0, hx1⟩ := at_T65 HR0.out i hi0 hlt
        cases e1
        replace hx0 := (HB.out.cell (World.block_lt_of_cell? w _ hx0)).trans hx0
        replace hx1 := (HB.out.cell (World.block_lt_of_cell? w _ hx1)).trans hx1
        have HD := HS.out
        rw [opts_May.drop l0 i hi0 hlt] at HD
        clear HS
        generalize rd_T65 l0 i = x at hx0 hx1 HD
        obtain ⟨c, s⟩ := x
        replace HD := Aside0.mk HD
        simp only at hx0 hx1
        have fin : ¬ (0 < c ∧ c < 255 ∧ c ∉ cs ∧ s.size ≤ 512) → opts_May.go [] l0 = false := fun e => by
          rw [HD.out]
          unfold opts_May.go
          rw [if_neg e]
        replace fin := Aside0.mk fin
        by_cases q1 : c ≤ 0
        · go_wp2
          go_ret
          exact ⟨by rw [fin.out (by omega)]; rfl, HB.out.alloc HB.out.size _⟩
        by_cases q2 : 255 ≤ c
        · go_wp2
          go_ret
          exact ⟨by rw [fin.out (by omega)]; rfl, HB.out.alloc HB.out.size _⟩
        have hlook := opts_May.Own.look (World.ownsMap.alloc HM.out (Obj.cells #[Value.int IntKind.i64 c, Value.string s] 65)) (c := c) (by omega) (by omega)
        by_cases q3 : c ∈ cs
        · rw [decide_eq_true q3] at hlook
          go_wp2
          go_ret
          exact ⟨by rw [fin.out (fun e => e.2.2.1 q3)]; rfl, HB.out.alloc HB.out.size _⟩
        rw [decide_eq_false q3] at hlook
        by_cases q4 : (512 : Int) < s.size
        · go_wp2
          go_ret
          exact ⟨by rw [fin.out (by omega)]; rfl, HB.out.alloc HB.out.size _⟩
        have hkey := Maps.keyOf_int_mk Try.underlying3 (a := c) (WalkArith.wf_i64 (by omega))
        have HN := Aside0.mk (show opts_May.go [] l0 = opts_May.go (cs ++ [c]) (l0.drop (i.toNat + 1)) by
          rw [HD.out]
          conv => lhs; unfold opts_May.go
          rw [if_pos (show 0 < c ∧ c < 255 ∧ c ∉ cs ∧ s.size ≤ 512 from ⟨by omega, by omega, q3, by omega⟩)])
        clear fin HD
        have hown := World.ownsMap.alloc HM.out (Obj.cells #[Value.int IntKind.i64 c, Value.string s] 65)
        go_wp2_with (first
          | (at_mapUpdate; refine wpList_mapUpdate_own _ rfl _ _ _ 112 rfl 3 4 (Maps.int_keyed Try.underlying3) Try.underlying112 _ w.heap.size i.toNat _ rfl hown (by unfold maxLen; omega) _ _ _ rfl rfl hkey _ [] (plainElem_bool Try.underlying4 true) ?_; intro w1 hown1 hgrow1)
          | go_in)
        go_roundg (l0.length - (i.toNat + 1))
        case measure => first | omega | (simp; omega)
        case rel =>
          have e2 : (i + 1).toNat = i.toNat + 1 := by omega
          refine ⟨i + 1, cs ++ [c], by omega, by omega, by go_num, ⟨?_⟩, ⟨?_⟩, ⟨?_⟩⟩
          · unfold opts_May.Own
            rw [opts_May.D_snoc, e2]
            exact hown1
          · exact (HB.out.alloc HB.out.size _).grown hgrow1 (HB.out.alloc HB.out.size _).size (fun j hj => by cases hj; exact Nat.le_refl _)
          · rw [e2]
            exact HN.out
      · have e3 : l0.drop i.toNat = [] := List.drop_eq_nil_of_le (by omega)
        have HE := Aside0.mk (show opts_May.go [] l0 = true by rw [HS.out, e3]; rfl)
        clear HS
        go_wp2
        go_ret
        have e4 : decide ((l0.length : Int) ≤ 32) = decide (l0.length ≤ 32) := decide_eq_decide.2 (by omega)
        refine ⟨?_, HB.out⟩
        rw [HE.out, Bool.true_and, ← e4]
        rfl
  · rw [if_neg hs] at h
    cases h

-- NOT PRINTED: function 80 (packet_Field_80)

-- NOT PRINTED: function 72 (packet_Field_72)

-- NOT PRINTED: function 73 (packet_fields)

/-! ### packet_May: function 51 -/
-- BY HAND
/-- does a number lie within so many bytes? -/
def packet_May.fit (x k : Int) : Bool := decide (0 ≤ x ∧ x < (if k = 1 then 256 else if k = 2 then 65536 else 4294967296))
set_option maxHeartbeats 8000000 in
set_option maxRecDepth 100000 in
theorem packet_May.fits (x k : Int) (hk : k = 1 ∨ k = 2 ∨ k = 4) (w : World) : Calls Try.prog 70 #[.int .i64 x, .int .i64 k] w fun e w' => e = .returned (.bool (packet_May.fit x k)) ∧ Drawn0 w w' := by
  have hf : ∀ b : Bool, (b = true ↔ 0 ≤ x ∧ x < (if k = 1 then 256 else if k = 2 then 65536 else 4294967296)) → (.bool (packet_May.fit x k) : Value) = .bool b := fun b h => by
    have : packet_May.fit x k = b := by
      unfold packet_May.fit
      rw [Bool.eq_iff_iff, h]
      exact decide_eq_true_iff
    rw [this]
  by_cases h : 0 ≤ x
  · rcases hk with rfl | rfl | rfl
    · rw [hf (x / 256 == 0) (by rw [beq_iff_eq, if_pos rfl]; omega)]
      go_enter Try.func70, Try.ntmps70
      go_wp2
      go_ret
      exact ⟨rfl, ⟨0, rfl⟩⟩
    · rw [hf (x / 65536 == 0) (by rw [beq_iff_eq, if_neg (by decide), if_pos rfl]; omega)]
      go_enter Try.func70, Try.ntmps70
      go_wp2
      go_ret
      exact ⟨rfl, ⟨0, rfl⟩⟩
    · rw [hf (x / 4294967296 == 0) (by rw [beq_iff_eq, if_neg (by decide), if_neg (by decide)]; omega)]
      go_enter Try.func70, Try.ntmps70
      go_wp2
      go_ret
      exact ⟨rfl, ⟨0, rfl⟩⟩
  · rw [hf false (by simp; omega)]
    go_enter Try.func70, Try.ntmps70
    go_wp2
    go_ret
    exact ⟨rfl, ⟨0, rfl⟩⟩
set_option maxHeartbeats 8000000 in
set_option maxRecDepth 100000 in
theorem packet_May.odd (p : Addr) (x k : Int) (hk : k = 1 ∨ k = 2 ∨ k = 4) (w : World) (hc : w.cell? p = some (.int .i64 x)) :
    Calls Try.prog 69 #[.agg #[.pointer (some p), .int .i64 k]] w fun e w' => e = .returned (.bool (!packet_May.fit x k)) ∧ Below w.heap.size w w' := by
  have hlt := World.block_lt_of_cell? w _ hc
  have hF := fun W => packet_May.fits x k hk W
  generalize packet_May.fit x k = b at hF ⊢
  go_enter Try.func69, Try.ntmps69
  go_wp2
  go_quiet (first | (go_at_call 70; refine (hF _).mono ?_; rintro e w' ⟨rfl, ⟨nd, rfl⟩⟩; exact ⟨rfl, _, World.drewN_drewN _ _ _⟩))
  go_wp2
  go_ret
  exact ⟨rfl, by repeat (first | exact Below.refl _ _ | apply below_alloc | apply pw_below_drewN | apply below_drew1)⟩
set_option maxHeartbeats 8000000 in
set_option maxRecDepth 100000 in
theorem packet_May.index (xs : List (Addr × Int × Int)) (g c : Nat) (w : World) (hn : xs.length ≤ 1000)
    (hc : ∀ (j : Nat) (h : j < xs.length), w.cell? ⟨g, j * 2, none⟩ = some (.pointer (some (xs[j]'h).1)) ∧ w.cell? ⟨g, j * 2 + 1, none⟩ = some (.int .i64 (xs[j]'h).2.1) ∧ w.cell? (xs[j]'h).1 = some (.int .i64 (xs[j]'h).2.2) ∧ ((xs[j]'h).2.1 = 1 ∨ (xs[j]'h).2.1 = 2 ∨ (xs[j]'h).2.1 = 4)) :
    Calls Try.prog 80 #[.slice (some ⟨g, 0, none⟩) xs.length c, .func (.func 69) #[] #[]] w fun e w' => ∃ r : Int, e = .returned (.int .i64 r) ∧ decide (r ≥ 0) = !(xs.all fun y => packet_May.fit y.2.2 y.2.1) ∧ Below w.heap.size w w' := by
  have HC := Aside0.mk hc
  clear hc
  go_enter Try.func80, Try.ntmps80
  go_wp2
  go_loopg [5, 8] xs.length (fun gg _ s8 wr => ∃ kk : Nat, kk + gg = xs.length ∧ s8 = .int .i64 kk ∧ Aside0 (Below w.heap.size w wr) ∧ Aside0 (∀ (j : Nat) (h : j < xs.length), j < kk → packet_May.fit (xs[j]'h).2.2 (xs[j]'h).2.1 = true))
  case atStart => exact ⟨0, by omega, rfl, ⟨Below.refl _ w⟩, ⟨fun j _ hj => absurd hj (Nat.not_lt_zero _)⟩⟩
  case round =>
    obtain ⟨kk, hg, rfl, BW, A⟩ := hrel
    by_cases hlt : kk < xs.length
    · have hltz : (kk : Int) < (xs.length : Int) := by omega
      obtain ⟨h0, h1, h2, h3⟩ := HC.out kk hlt
      obtain ⟨⟨p, k, x⟩, hy⟩ : ∃ y, xs[kk]'hlt = y := ⟨_, rfl⟩
      have B := Aside0.mk hy
      rw [hy] at h0 h1 h2 h3
      clear hy
      simp only at h0 h1 h2 h3
      replace h0 := (BW.out.cell (World.block_lt_of_cell? w _ h0)).trans h0
      replace h1 := (BW.out.cell (World.block_lt_of_cell? w _ h1)).trans h1
      replace h2 := (BW.out.cell (World.block_lt_of_cell? w _ h2)).trans h2
      have hcall := packet_May.odd p x k h3 wr h2
      have hf : xs[kk].2.2 = x ∧ xs[kk].2.1 = k := by rw [B.out]; exact ⟨rfl, rfl⟩
      replace hf := Aside0.mk hf
      clear h2 h3 B
      cases hq : packet_May.fit x k with
      | false =>
        rw [hq] at hcall
        have hq' := Aside0.mk hq
        clear hq
        go_wp2_with (go_at_call 69; refine hcall.mono ?_; rintro e w' ⟨rfl, hb'⟩)
        go_ret
        refine ⟨kk, rfl, ?_, below_step BW.out hb'⟩
        have : (xs.all fun y => packet_May.fit y.2.2 y.2.1) = false := by
          rw [List.all_eq_false]
          exact ⟨xs[kk], List.getElem_mem hlt, by rw [hf.out.1, hf.out.2, hq'.out]; simp⟩
        rw [this, decide_eq_true (by omega)]
        rfl
      | true =>
        rw [hq] at hcall
        have hq' := Aside0.mk hq
        clear hq
        go_wp2_with (go_at_call 69; refine hcall.mono ?_; rintro e w' ⟨rfl, hb'⟩)
        go_roundg (xs.length - (kk + 1))
        case measure => omega
        case rel =>
          refine ⟨kk + 1, by omega, by go_num, ⟨below_step BW.out hb'⟩, ⟨fun j h hj => ?_⟩⟩
          by_cases e : j = kk
          · subst e
            rw [hf.out.1, hf.out.2]
            exact hq'.out
          · exact A.out j h (by omega)
    · have hltz : ¬ (kk : Int) < (xs.length : Int) := by omega
      go_wp2
      go_ret
      refine ⟨-1, rfl, ?_, BW.out⟩
      have : (xs.all fun y => packet_May.fit y.2.2 y.2.1) = true := by
        rw [List.all_eq_true]
        intro y hy
        obtain ⟨j, hj, rfl⟩ := List.getElem_of_mem hy
        exact A.out j hj (by omega)
      rw [this, decide_eq_false (by omega)]
      rfl
set_option maxHeartbeats 8000000 in
set_option maxRecDepth 100000 in
theorem packet_May.contains (xs : List (Addr × Int × Int)) (g c : Nat) (w : World) (hn : xs.length ≤ 1000)
    (hc : ∀ (j : Nat) (h : j < xs.length), w.cell? ⟨g, j * 2, none⟩ = some (.pointer (some (xs[j]'h).1)) ∧ w.cell? ⟨g, j * 2 + 1, none⟩ = some (.int .i64 (xs[j]'h).2.1) ∧ w.cell? (xs[j]'h).1 = some (.int .i64 (xs[j]'h).2.2) ∧ ((xs[j]'h).2.1 = 1 ∨ (xs[j]'h).2.1 = 2 ∨ (xs[j]'h).2.1 = 4)) :
    Calls Try.prog 72 #[.slice (some ⟨g, 0, none⟩) xs.length c, .func (.func 69) #[] #[]] w fun e w' => e = .returned (.bool (!(xs.all fun y => packet_May.fit y.2.2 y.2.1))) ∧ Below w.heap.size w w' := by
  have hcall := packet_May.index xs g c w hn hc
  clear hc
  generalize (!(xs.all fun y => packet_May.fit y.2.2 y.2.1)) = b at hcall ⊢
  go_enter Try.func72, Try.ntmps72
  go_wp2_with (go_at_call 80; refine hcall.mono ?_; rintro e w' ⟨r, rfl, rfl, hb'⟩)
  go_ret
  exact ⟨rfl, hb'⟩
/-- a packet's numbers: where they lie, how many bytes they have. -/
def packet_May.cells (b b2 : Nat) : Array Value := #[.pointer (some ⟨b, 0, none⟩), .int .i64 1, .pointer (some ⟨b, 1, none⟩), .int .i64 1, .pointer (some ⟨b2, 0, none⟩), .int .i64 1, .pointer (some ⟨b, 2, none⟩), .int .i64 1, .pointer (some ⟨b, 3, none⟩), .int .i64 4, .pointer (some ⟨b, 4, none⟩), .int .i64 2, .pointer (some ⟨b, 5, none⟩), .int .i64 2, .pointer (some ⟨b, 6, none⟩), .int .i64 4, .pointer (some ⟨b, 7, none⟩), .int .i64 4, .pointer (some ⟨b, 8, none⟩), .int .i64 4, .pointer (some ⟨b, 9, none⟩), .int .i64 4]
def packet_May.xs (b b2 : Nat) (a0 a1 a2 a3 a4 a5 a6 a7 a8 a9 n : Int) : List (Addr × Int × Int) := [(⟨b, 0, none⟩, 1, a0), (⟨b, 1, none⟩, 1, a1), (⟨b2, 0, none⟩, 1, n), (⟨b, 2, none⟩, 1, a2), (⟨b, 3, none⟩, 4, a3), (⟨b, 4, none⟩, 2, a4), (⟨b, 5, none⟩, 2, a5), (⟨b, 6, none⟩, 4, a6), (⟨b, 7, none⟩, 4, a7), (⟨b, 8, none⟩, 4, a8), (⟨b, 9, none⟩, 4, a9)]
theorem packet_May.holds {w : World} {g b b2 : Nat} {a0 a1 a2 a3 a4 a5 a6 a7 a8 a9 n : Int} {v10 v11 : Value} (hg : w.heap[g]? = some (.cells (packet_May.cells b b2) 99))
    (hb : w.heap[b]? = some (.cells #[.int .i64 a0, .int .i64 a1, .int .i64 a2, .int .i64 a3, .int .i64 a4, .int .i64 a5, .int .i64 a6, .int .i64 a7, .int .i64 a8, .int .i64 a9, v10, v11] 54)) (hl : w.heap[b2]? = some (.cells #[.int .i64 n] 3)) (j : Nat) (h : j < (packet_May.xs b b2 a0 a1 a2 a3 a4 a5 a6 a7 a8 a9 n).length) :
    w.cell? ⟨g, j * 2, none⟩ = some (.pointer (some ((packet_May.xs b b2 a0 a1 a2 a3 a4 a5 a6 a7 a8 a9 n)[j]'h).1)) ∧ w.cell? ⟨g, j * 2 + 1, none⟩ = some (.int .i64 ((packet_May.xs b b2 a0 a1 a2 a3 a4 a5 a6 a7 a8 a9 n)[j]'h).2.1) ∧ w.cell? ((packet_May.xs b b2 a0 a1 a2 a3 a4 a5 a6 a7 a8 a9 n)[j]'h).1 = some (.int .i64 ((packet_May.xs b b2 a0 a1 a2 a3 a4 a5 a6 a7 a8 a9 n)[j]'h).2.2) ∧ (((packet_May.xs b b2 a0 a1 a2 a3 a4 a5 a6 a7 a8 a9 n)[j]'h).2.1 = 1 ∨ ((packet_May.xs b b2 a0 a1 a2 a3 a4 a5 a6 a7 a8 a9 n)[j]'h).2.1 = 2 ∨ ((packet_May.xs b b2 a0 a1 a2 a3 a4 a5 a6 a7 a8 a9 n)[j]'h).2.1 = 4) := by
  match j, h with
  | 0, _ => exact ⟨(blk_cell hg 0).trans rfl, (blk_cell hg 1).trans rfl, (blk_cell hb 0).trans rfl, .inl rfl⟩
  | 1, _ => exact ⟨(blk_cell hg 2).trans rfl, (blk_cell hg 3).trans rfl, (blk_cell hb 1).trans rfl, .inl rfl⟩
  | 2, _ => exact ⟨(blk_cell hg 4).trans rfl, (blk_cell hg 5).trans rfl, (blk_cell hl 0).trans rfl, .inl rfl⟩
  | 3, _ => exact ⟨(blk_cell hg 6).trans rfl, (blk_cell hg 7).trans rfl, (blk_cell hb 2).trans rfl, .inl rfl⟩
  | 4, _ => exact ⟨(blk_cell hg 8).trans rfl, (blk_cell hg 9).trans rfl, (blk_cell hb 3).trans rfl, .inr (.inr rfl)⟩
  | 5, _ => exact ⟨(blk_cell hg 10).trans rfl, (blk_cell hg 11).trans rfl, (blk_cell hb 4).trans rfl, .inr (.inl rfl)⟩
  | 6, _ => exact ⟨(blk_cell hg 12).trans rfl, (blk_cell hg 13).trans rfl, (blk_cell hb 5).trans rfl, .inr (.inl rfl)⟩
  | 7, _ => exact ⟨(blk_cell hg 14).trans rfl, (blk_cell hg 15).trans rfl, (blk_cell hb 6).trans rfl, .inr (.inr rfl)⟩
  | 8, _ => exact ⟨(blk_cell hg 16).trans rfl, (blk_cell hg 17).trans rfl, (blk_cell hb 7).trans rfl, .inr (.inr rfl)⟩
  | 9, _ => exact ⟨(blk_cell hg 18).trans rfl, (blk_cell hg 19).trans rfl, (blk_cell hb 8).trans rfl, .inr (.inr rfl)⟩
  | 10, _ => exact ⟨(blk_cell hg 20).trans rfl, (blk_cell hg 21).trans rfl, (blk_cell hb 9).trans rfl, .inr (.inr rfl)⟩
  | q + 11, h => exact absurd h (by simp [packet_May.xs])
set_option maxHeartbeats 8000000 in
set_option maxRecDepth 100000 in
theorem packet_May.fields (b b2 : Nat) (w : World) :
    Calls Try.prog 73 #[.pointer (some ⟨b, 0, none⟩), .pointer (some ⟨b2, 0, none⟩)] w fun e w' => ∃ g : Nat, e = .returned (.slice (some ⟨g, 0, none⟩) 11 11) ∧ w'.heap[g]? = some (.cells (packet_May.cells b b2) 99) ∧ Below w.heap.size w w' := by
  go_enter Try.func73, Try.ntmps73
  go_wp2
  go_region
  go_wp2
  go_ret
  exact ⟨_, rfl, by unfold packet_May.cells; exact blk_new _ _, by repeat (first | exact Below.refl _ _ | apply below_alloc | apply pw_below_drewN | apply below_drew1)⟩
def packet_May.ok (a0_10 : Int) (a0_0 : Int) (a0_1 : Int) (a0_2 : Int) (a0_3 : Int) (a0_4 : Int) (a0_5 : Int) (a0_6 : Int) (a0_7 : Int) (a0_8 : Int) (a0_9 : Int) : Bool := (packet_May.xs 0 0 a0_0 a0_1 a0_2 a0_3 a0_4 a0_5 a0_6 a0_7 a0_8 a0_9 a0_10).all fun y => packet_May.fit y.2.2 y.2.1
theorem packet_May.all_ (b b2 : Nat) (n : Int) (a0_0 : Int) (a0_1 : Int) (a0_2 : Int) (a0_3 : Int) (a0_4 : Int) (a0_5 : Int) (a0_6 : Int) (a0_7 : Int) (a0_8 : Int) (a0_9 : Int) : ((packet_May.xs b b2 a0_0 a0_1 a0_2 a0_3 a0_4 a0_5 a0_6 a0_7 a0_8 a0_9 n).all fun y => packet_May.fit y.2.2 y.2.1) = packet_May.ok n a0_0 a0_1 a0_2 a0_3 a0_4 a0_5 a0_6 a0_7 a0_8 a0_9 := rfl
theorem packet_May.contains' {w : World} {g b b2 : Nat} {a0 a1 a2 a3 a4 a5 a6 a7 a8 a9 n : Int} {v10 v11 : Value} {bb : Bool} (hg : w.heap[g]? = some (.cells (packet_May.cells b b2) 99))
    (hb : w.heap[b]? = some (.cells #[.int .i64 a0, .int .i64 a1, .int .i64 a2, .int .i64 a3, .int .i64 a4, .int .i64 a5, .int .i64 a6, .int .i64 a7, .int .i64 a8, .int .i64 a9, v10, v11] 54)) (hl : w.heap[b2]? = some (.cells #[.int .i64 n] 3)) (hbb : packet_May.ok n a0 a1 a2 a3 a4 a5 a6 a7 a8 a9 = bb) :
    Calls Try.prog 72 #[.slice (some ⟨g, 0, none⟩) 11 11, .func (.func 69) #[] #[]] w fun e w' => e = .returned (.bool (!bb)) ∧ Below w.heap.size w w' := by
  have h := packet_May.contains (packet_May.xs b b2 a0 a1 a2 a3 a4 a5 a6 a7 a8 a9 n) g 11 w (by simp [packet_May.xs]) (packet_May.holds hg hb hl)
  rw [packet_May.all_, hbb] at h
  exact h
def packet_May.f (a0_0 : Int) (a0_1 : Int) (a0_2 : Int) (a0_3 : Int) (a0_4 : Int) (a0_5 : Int) (a0_6 : Int) (a0_7 : Int) (a0_8 : Int) (a0_9 : Int) (a0_10 : ByteArray) (l0_11 : List S65) : Option Bool :=
  if a0_10.size ≤ 16 then (opts_May.f l0_11).bind fun t => if t = true then some (packet_May.ok a0_10.size a0_0 a0_1 a0_2 a0_3 a0_4 a0_5 a0_6 a0_7 a0_8 a0_9) else some false else some false
set_option maxHeartbeats 8000000 in
set_option maxRecDepth 100000 in
theorem packet_May.calls (a0_0 : Int) (a0_1 : Int) (a0_2 : Int) (a0_3 : Int) (a0_4 : Int) (a0_5 : Int) (a0_6 : Int) (a0_7 : Int) (a0_8 : Int) (a0_9 : Int) (a0_10 : ByteArray) (A0_11 : Option Addr) (c0_11 : Nat) (l0_11 : List (S65)) (r : Bool) (w : World) (hr0_11 : Kd.C k65 w A0_11 l0_11.length l0_11) (hc0_11 : l0_11.length ≤ c0_11) (h : packet_May.f a0_0 a0_1 a0_2 a0_3 a0_4 a0_5 a0_6 a0_7 a0_8 a0_9 a0_10 l0_11 = some r) :
    Calls Try.prog 51 #[.agg #[.int .i64 a0_0, .int .i64 a0_1, .int .i64 a0_2, .int .i64 a0_3, .int .i64 a0_4, .int .i64 a0_5, .int .i64 a0_6, .int .i64 a0_7, .int .i64 a0_8, .int .i64 a0_9, .string a0_10, .slice A0_11 l0_11.length c0_11]] w fun e w' => e = .returned (.bool r) ∧ Below w.heap.size w w' := by
  have HR := Aside0.mk hr0_11
  have HC := Aside0.mk hc0_11
  clear hr0_11 hc0_11
  unfold packet_May.f at h
  by_cases q : a0_10.size ≤ 16
  · rw [if_pos q] at h
    obtain ⟨t, ht, h⟩ := Option.bind_eq_some_iff.1 h
    have HT := Aside0.mk ht
    clear ht
    have qz : (a0_10.size : Int) ≤ 16 := by omega
    cases t with
    | false =>
      obtain rfl : false = r := by simpa using h
      clear h
      go_enter Try.func51, Try.ntmps51
      go_wp2_with (first | (go_at_call 71; refine (opts_May.calls _ _ _ _ _ (Kd.C_below HR.out (by repeat (first | exact Below.refl _ _ | apply below_alloc | apply pw_below_drewN | apply below_drew1))) HC.out HT.out).mono ?_; rintro e w1 ⟨rfl, hb1⟩; replace hb1 := below_step (show Below w.heap.size w _ by repeat (first | exact Below.refl _ _ | apply below_alloc | apply pw_below_drewN | apply below_drew1)) hb1))
      go_ret
      exact ⟨rfl, hb1⟩
    | true =>
      obtain ⟨bb, hbb⟩ : ∃ bb, packet_May.ok a0_10.size a0_0 a0_1 a0_2 a0_3 a0_4 a0_5 a0_6 a0_7 a0_8 a0_9 = bb := ⟨_, rfl⟩
      obtain rfl : bb = r := by simpa [hbb] using h
      clear h
      have HBB := Aside0.mk hbb
      clear hbb
      go_enter Try.func51, Try.ntmps51
      go_wp2_with (first
        | (go_at_call 71; refine (opts_May.calls _ _ _ _ _ (Kd.C_below HR.out (by repeat (first | exact Below.refl _ _ | apply below_alloc | apply pw_below_drewN | apply below_drew1))) HC.out HT.out).mono ?_; rintro e w1 ⟨rfl, hb1⟩; have e54 := Aside0.mk (blk_below (blk_below (blk_new w (.cells #[.int .i64 a0_0, .int .i64 a0_1, .int .i64 a0_2, .int .i64 a0_3, .int .i64 a0_4, .int .i64 a0_5, .int .i64 a0_6, .int .i64 a0_7, .int .i64 a0_8, .int .i64 a0_9, .string a0_10, .slice A0_11 l0_11.length c0_11] 54)) (below_alloc (Below.refl _ _) _)) hb1); have eL := Aside0.mk (show w1.heap[w.heap.size + 1]? = some (.cells #[.int .i64 a0_10.size] 3) by have := blk_below (blk_new (w.alloc (.cells #[.int .i64 a0_0, .int .i64 a0_1, .int .i64 a0_2, .int .i64 a0_3, .int .i64 a0_4, .int .i64 a0_5, .int .i64 a0_6, .int .i64 a0_7, .int .i64 a0_8, .int .i64 a0_9, .string a0_10, .slice A0_11 l0_11.length c0_11] 54)) (.cells #[.int .i64 a0_10.size] 3)) hb1; simpa using this); have HB := Aside0.mk (below_step (show Below w.heap.size w _ by repeat (first | exact Below.refl _ _ | apply below_alloc | apply pw_below_drewN | apply below_drew1)) hb1); clear hb1)
        | (go_at_call 73; refine (packet_May.fields _ _ _).mono ?_; rintro e w2 ⟨g, rfl, hg, hb2⟩; have EG := Aside0.mk hg; have e54' := Aside0.mk (blk_below e54.out hb2); have eL' := Aside0.mk (blk_below eL.out hb2); have HB' := Aside0.mk (below_step HB.out hb2); clear hg hb2)
        | (go_at_call 72; refine (packet_May.contains' EG.out e54'.out eL'.out HBB.out).mono ?_; rintro e w3 ⟨rfl, hb3⟩))
      go_ret
      exact ⟨by first | rfl | simp, below_step HB'.out hb3⟩
  · rw [if_neg q] at h
    obtain rfl : false = r := by simpa using h
    clear h
    have qz : ¬ (a0_10.size : Int) ≤ 16 := by omega
    go_enter Try.func51, Try.ntmps51
    go_wp2
    go_ret
    exact ⟨rfl, by repeat (first | exact Below.refl _ _ | apply below_alloc | apply pw_below_drewN | apply below_drew1)⟩

/-! ### opts_Find: function 52 -/
def opts_Find.l0 : Nat → Int → List (S65) → Int → Int → Option (ByteArray × Bool)
  | 0, _, _, _, _ => none
  | k + 1, x1, x8, x9, x10 => if x10 < x9 then (if 0 ≤ x10 then (if x10 < (x8.length : Int) then (if ((rd_T65 x8 x10).f0) = x1 then (some ((rd_T65 x8 x10).f1, true)) else (opts_Find.l0 k x1 x8 x9 (wrap64 (x10 + 1)))) else (none)) else (none)) else (some ((⟨#[]⟩ : ByteArray), false))
def opts_Find.f (k : Nat) (l0 : List (S65)) (a1 : Int) : Option (ByteArray × Bool) := opts_Find.l0 k a1 l0 (l0.length : Int) 0
theorem opts_Find.mono_l : ∀ k, (∀ y0 y1 y2 y3, LeO (opts_Find.l0 k y0 y1 y2 y3) (opts_Find.l0 (k + 1) y0 y1 y2 y3))
  | 0 => fun _ _ _ _ r h => by simp [opts_Find.l0] at h
  | k + 1 => by
    have ih0 := opts_Find.mono_l k
    · intro y0 y1 y2 y3
      unfold opts_Find.l0
      repeat' first
      | (with_reducible exact ih0 _ _ _ _)
      | (with_reducible exact LeO.refl _)
      | (with_reducible exact LeO.none _)
      | (with_reducible refine LeO.ite ?_ ?_)
      | (with_reducible refine LeO.bind ?_ (fun _ => ?_))
      | exact ih0 _ _ _ _
      | exact LeO.none _
      | refine LeO.ite ?_ ?_
      | refine LeO.bind ?_ (fun _ => ?_)
theorem opts_Find.mono : ∀ a0 a1 k, LeO (opts_Find.f k a0 a1) (opts_Find.f (k + 1) a0 a1) := by
  intro a0 a1 k
  have ih0 := opts_Find.mono_l k
  unfold opts_Find.f
  repeat' first
      | (with_reducible exact ih0 _ _ _ _)
      | (with_reducible exact LeO.refl _)
      | (with_reducible exact LeO.none _)
      | (with_reducible refine LeO.ite ?_ ?_)
      | (with_reducible refine LeO.bind ?_ (fun _ => ?_))
      | exact ih0 _ _ _ _
      | exact LeO.none _
      | refine LeO.ite ?_ ?_
      | refine LeO.bind ?_ (fun _ => ?_)
set_option maxHeartbeats 8000000 in
set_option maxRecDepth 100000 in
theorem opts_Find.calls (k : Nat) (A0 : Option Addr) (c0 : Nat) (l0 : List (S65)) (a1 : Int) (r1 : ByteArray) (r2 : Bool) (w : World) (hr0 : Kd.C k65 w A0 l0.length l0) (hc0 : l0.length ≤ c0) (h : opts_Find.f k l0 a1 = some (r1, r2)) :
    Calls Try.prog 52 #[.slice A0 l0.length c0, .int .i64 a1] w fun e w' => e = .returned (.tuple #[.string r1, .bool r2]) ∧ Below w.heap.size w w' := by
  have hu65 := Try.underlying65
  have HR0 := Aside0.mk hr0
  have HC0 := Aside0.mk hc0
  clear hr0 hc0
  have HB := Aside0.mk (Below.refl w.heap.size w)
  have H : (opts_Find.l0 k a1 l0 (l0.length : Int) 0) = some (r1, r2) := h
  clear h
  have H' := Aside0.mk H
  clear H
  go_enter Try.func52, Try.ntmps52
  go_wp2
  go_loopg [10] k (fun kq v10 w' => ∃ (x10_1 : Int), v10 = .int .i64 x10_1 ∧ Aside0 (opts_Find.l0 kq a1 l0 (l0.length : Int) x10_1 = some (r1, r2)) ∧ Aside0 (kq ≤ k) ∧ Aside0 (Below w.heap.size w w'))
  case atStart => exact ⟨(0), (by first | rfl | (simp; done) | (simp [*]; done)), H', ⟨Nat.le_refl _⟩, ⟨by repeat (with_reducible first | exact HB.out | apply below_alloc | apply pw_below_drewN | apply below_drew1)⟩⟩
  case round =>
    clear H'
    obtain ⟨x10_1, rfl, HA, HK1, HB⟩ := hrel
    cases gk with
    | zero => exact absurd HA.out (by simp [opts_Find.l0])
    | succ k1 =>
      have H := HA.out
      clear HA
      simp only [opts_Find.l0] at H
      by_cases c3 : x10_1 < (l0.length : Int)
      · rw [if_pos c3] at H
        have c3b0 : decide (x10_1 < (l0.length : Int)) = true := decide_eq_true c3
        clear c3
        by_cases c4 : 0 ≤ x10_1
        rotate_left
        · rw [if_neg c4] at H
          exact absurd H (by simp)
        rw [if_pos c4] at H
        have c4b0 : decide (0 ≤ x10_1) = true := decide_eq_true c4
        clear c4
        by_cases c5 : x10_1 < (l0.length : Int)
        rotate_left
        · rw [if_neg c5] at H
          exact absurd H (by simp)
        rw [if_pos c5] at H
        have c5b0 : decide (x10_1 < (l0.length : Int)) = true := decide_eq_true c5
        clear c5
        by_cases c6 : ((rd_T65 l0 x10_1).f0) = a1
        · rw [if_pos c6] at H
          have c6b0 : (((rd_T65 l0 x10_1).f0) == a1) = true := beq_iff_eq.mpr c6
          have c6b1 : (((rd_T65 l0 x10_1).f0) != a1) = false := bne_eq_false_iff_eq.mpr c6
          clear c6
          simp only [Option.some.injEq, Prod.mk.injEq] at H
          obtain ⟨rfl, rfl⟩ := H
          have p101 : 0 ≤ (x10_1 : Int) := of_decide_eq_true (by first | (with_reducible assumption) | assumption)
          have q101 : x10_1 < (l0.length : Int) := of_decide_eq_true (by first | (with_reducible assumption) | assumption)
          obtain ⟨ad101, e101, hx101_0, hx101_1⟩ := at_T65 HR0.out x10_1 p101 q101
          cases e101
          replace hx101_0 := (HB.out.cell (World.block_lt_of_cell? w _ hx101_0)).trans hx101_0
          replace hx101_1 := (HB.out.cell (World.block_lt_of_cell? w _ hx101_1)).trans hx101_1
          replace p101 := eq_true p101
          replace q101 := eq_true q101
          go_wp2_with (first | ((with_reducible refine gate_dst (N := 7) rfl ?_); refine box_event ?hg (N := 7) ?hd (cs := #[.int .i64 0, .string (⟨#[]⟩ : ByteArray)]) (t := 65) ?hr ?_; (case hd => rfl); (case hg => rfl); (case hr => first | (go_simp; done) | (go_simp; rfl)); intro gb102 hg w7 hbox hb; have n0_ := Aside0.mk (below_step (by repeat (with_reducible first | exact HB.out | apply below_alloc | apply pw_below_drewN | apply below_drew1)) hb); have n1_ := Aside0.mk (hbox); have n2_ := Aside0.mk ((by rw [hg]; exact (below_size (by repeat (with_reducible first | exact HB.out | apply below_alloc | apply pw_below_drewN | apply below_drew1))) : w.heap.size ≤ gb102)); have n3_ := Aside0.mk ((by rw [hg]; exact (below_size (by repeat (with_reducible first | exact HB.out | apply below_alloc | apply pw_below_drewN | apply below_drew1))) : w.heap.size ≤ gb102)); clear HB; have HB := n0_; have BK102 := n1_; have GW102 := n2_; have GE102 := n3_; clear n0_ n1_ n2_ n3_; clear hb hbox hg; have hcz8_0 : w7.cell? ⟨gb102, 0, none⟩ = some (.int .i64 0) := (blk_cell BK102.out 0).trans rfl; have hcz8_1 : w7.cell? ⟨gb102, 1, none⟩ = some (.string (⟨#[]⟩ : ByteArray)) := (blk_cell BK102.out 1).trans rfl; have hfz8_0 := blk_frozen BK102.out 0; have hfz8_1 := blk_frozen BK102.out 1))
          go_ret2
          exact ⟨by first | rfl | (simp [errW_none, errW_some] <;> rfl) | (simp [*, errW_none, errW_some] <;> rfl), by repeat (with_reducible first | exact HB.out | apply below_alloc | apply pw_below_drewN | apply below_drew1 | refine below_set ?_ GE102.out)⟩
        rw [if_neg c6] at H
        have c6b0 : (((rd_T65 l0 x10_1).f0) == a1) = false := beq_eq_false_iff_ne.mpr c6
        have c6b1 : (((rd_T65 l0 x10_1).f0) != a1) = true := bne_iff_ne.mpr c6
        have H' := Aside0.mk H
        clear H
        have p101 : 0 ≤ (x10_1 : Int) := of_decide_eq_true (by first | (with_reducible assumption) | assumption)
        have q101 : x10_1 < (l0.length : Int) := of_decide_eq_true (by first | (with_reducible assumption) | assumption)
        obtain ⟨ad101, e101, hx101_0, hx101_1⟩ := at_T65 HR0.out x10_1 p101 q101
        cases e101
        replace hx101_0 := (HB.out.cell (World.block_lt_of_cell? w _ hx101_0)).trans hx101_0
        replace hx101_1 := (HB.out.cell (World.block_lt_of_cell? w _ hx101_1)).trans hx101_1
        replace p101 := eq_true p101
        replace q101 := eq_true q101
        go_wp2_with (first | ((with_reducible refine gate_dst (N := 7) rfl ?_); refine box_event ?hg (N := 7) ?hd (cs := #[.int .i64 0, .string (⟨#[]⟩ : ByteArray)]) (t := 65) ?hr ?_; (case hd => rfl); (case hg => rfl); (case hr => first | (go_simp; done) | (go_simp; rfl)); intro gb102 hg w9 hbox hb; have n0_ := Aside0.mk (below_step (by repeat (with_reducible first | exact HB.out | apply below_alloc | apply pw_below_drewN | apply below_drew1)) hb); have n1_ := Aside0.mk (hbox); have n2_ := Aside0.mk ((by rw [hg]; exact (below_size (by repeat (with_reducible first | exact HB.out | apply below_alloc | apply pw_below_drewN | apply below_drew1))) : w.heap.size ≤ gb102)); have n3_ := Aside0.mk ((by rw [hg]; exact (below_size (by repeat (with_reducible first | exact HB.out | apply below_alloc | apply pw_below_drewN | apply below_drew1))) : w.heap.size ≤ gb102)); clear HB; have HB := n0_; have BK102 := n1_; have GW102 := n2_; have GE102 := n3_; clear n0_ n1_ n2_ n3_; clear hb hbox hg; have hcz10_0 : w9.cell? ⟨gb102, 0, none⟩ = some (.int .i64 0) := (blk_cell BK102.out 0).trans rfl; have hcz10_1 : w9.cell? ⟨gb102, 1, none⟩ = some (.string (⟨#[]⟩ : ByteArray)) := (blk_cell BK102.out 1).trans rfl; have hfz10_0 := blk_frozen BK102.out 0; have hfz10_1 := blk_frozen BK102.out 1))
        go_roundg k1
        case measure => have := HK1.out; omega
        case rel => exact ⟨(wrap64 (x10_1 + 1)), (by first | rfl | (simp; done) | (simp [*]; done)), H', ⟨by have := HK1.out; omega⟩, ⟨by repeat (with_reducible first | exact HB.out | apply below_alloc | apply pw_below_drewN | apply below_drew1 | refine below_set ?_ GE102.out)⟩⟩
      rw [if_neg c3] at H
      have c3b0 : decide (x10_1 < (l0.length : Int)) = false := decide_eq_false c3
      clear c3
      simp only [Option.some.injEq, Prod.mk.injEq] at H
      obtain ⟨rfl, rfl⟩ := H
      go_wp2
      go_ret2
      exact ⟨by first | rfl | (simp [errW_none, errW_some] <;> rfl) | (simp [*, errW_none, errW_some] <;> rfl), by repeat (with_reducible first | exact HB.out | apply below_alloc | apply pw_below_drewN | apply below_drew1)⟩

/-! ### be_Bytes: function 53 -/
def be_Bytes.l0 : Nat → Int → List Int → Int → Option (ByteArray)
  | 0, _, _, _ => none
  | k + 1, x0, x5, x6 => if x6 ≥ 0 then (if 0 ≤ x6 then (if x6 < (x5.length : Int) then (be_Bytes.l0 k (x0 / 256) (x5.set (x6 : Int).toNat ((x0) % 256)) (wrap64 (x6 - 1))) else (none)) else (none)) else (some (strOfNums x5))
def be_Bytes.f (k : Nat) (a0 : Int) (a1 : Int) : Option (ByteArray) := if 0 ≤ a1 then (if (a1 : Int).toNat ≤ 281474976710656 then (be_Bytes.l0 k a0 (List.replicate (a1 : Int).toNat 0) (wrap64 (a1 - 1))) else (none)) else (none)
theorem be_Bytes.mono_l : ∀ k, (∀ y0 y1 y2, LeO (be_Bytes.l0 k y0 y1 y2) (be_Bytes.l0 (k + 1) y0 y1 y2))
  | 0 => fun _ _ _ r h => by simp [be_Bytes.l0] at h
  | k + 1 => by
    have ih0 := be_Bytes.mono_l k
    · intro y0 y1 y2
      unfold be_Bytes.l0
      repeat' first
      | (with_reducible exact ih0 _ _ _)
      | (with_reducible exact LeO.refl _)
      | (with_reducible exact LeO.none _)
      | (with_reducible refine LeO.ite ?_ ?_)
      | (with_reducible refine LeO.bind ?_ (fun _ => ?_))
      | exact ih0 _ _ _
      | exact LeO.none _
      | refine LeO.ite ?_ ?_
      | refine LeO.bind ?_ (fun _ => ?_)
theorem be_Bytes.mono : ∀ a0 a1 k, LeO (be_Bytes.f k a0 a1) (be_Bytes.f (k + 1) a0 a1) := by
  intro a0 a1 k
  have ih0 := be_Bytes.mono_l k
  unfold be_Bytes.f
  repeat' first
      | (with_reducible exact ih0 _ _ _)
      | (with_reducible exact LeO.refl _)
      | (with_reducible exact LeO.none _)
      | (with_reducible refine LeO.ite ?_ ?_)
      | (with_reducible refine LeO.bind ?_ (fun _ => ?_))
      | exact ih0 _ _ _
      | exact LeO.none _
      | refine LeO.ite ?_ ?_
      | refine LeO.bind ?_ (fun _ => ?_)
set_option maxHeartbeats 8000000 in
set_option maxRecDepth 100000 in
theorem be_Bytes.calls (k : Nat) (a0 : Int) (a1 : Int) (r : ByteArray) (w : World) (h : be_Bytes.f k a0 a1 = some r) :
    Calls Try.prog 53 #[.int .i64 a0, .int .i64 a1] w fun e w' => e = .returned (.string r) ∧ Below w.heap.size w w' := by
  have HB := Aside0.mk (Below.refl w.heap.size w)
  have H : (if 0 ≤ a1 then (if (a1 : Int).toNat ≤ 281474976710656 then (be_Bytes.l0 k a0 (List.replicate (a1 : Int).toNat 0) (wrap64 (a1 - 1))) else (none)) else (none)) = some r := h
  clear h
  by_cases c3 : 0 ≤ a1
  rotate_left
  · rw [if_neg c3] at H
    exact absurd H (by simp)
  rw [if_pos c3] at H
  have c3b0 := eq_true c3
  have c3b1 : decide (0 ≤ a1) = true := decide_eq_true c3
  clear c3
  by_cases c4 : (a1 : Int).toNat ≤ 281474976710656
  rotate_left
  · rw [if_neg c4] at H
    exact absurd H (by simp)
  rw [if_pos c4] at H
  have c4b0 := eq_true c4
  have c4b1 : decide ((a1 : Int).toNat ≤ 281474976710656) = true := decide_eq_true c4
  clear c4
  obtain ⟨y103, hy103⟩ : ∃ y_ : List Int, y_ = (List.replicate (a1 : Int).toNat 0) := ⟨_, rfl⟩
  replace H : (be_Bytes.l0 k a0 y103 (wrap64 (a1 - 1))) = some r := by first | (rw [hy103]; with_reducible exact H) | (have H2_ := (Option.bind_some _ _).symm.trans H; rw [hy103]; with_reducible exact H2_) | (have H2_ := (Option.bind_some _ _).symm.trans H; with_reducible exact H2_) | with_reducible exact H | (rw [hy103]; exact H) | exact H
  have Ny103 := Aside0.mk hy103
  clear hy103
  have H' := Aside0.mk H
  clear H
  go_enter Try.func53, Try.ntmps53
  go_wp2_with (first | ((with_reducible refine gate_dst (N := 8) rfl ?_); refine Kd.R_make (Kd.int .u8) _ 5 rfl (N := 8) rfl 28 _ _ rfl a1 rfl rfl Try.underlying28 (.int .u8 0) 1 info5 rfl (by decide) (by omega) 0 (ok := fun _ => True) (okp := fun _ => True) rfl (fun _ hk => hk) trivial (of_decide_eq_true (by first | (with_reducible assumption) | assumption)) (Nat.le_trans (Nat.mul_le_mul_right _ (of_decide_eq_true (by first | (with_reducible assumption) | assumption) : a1.toNat ≤ 281474976710656)) (by omega)) (Below.refl _ _) (Nat.le_refl _) ?_; intro v104 w5 ho6 hb hg_ hnew_; clear hg_ hnew_; (first | rw [← Ny103.out] at ho6 | (simp only [Int.reduceToNat] at ho6; rw [← Ny103.out] at ho6)); have n0_ := Aside0.mk (Kd.R_lower ho6 (below_size (by repeat (with_reducible first | exact HB.out | apply below_alloc | apply pw_below_drewN | apply below_drew1)))); have n1_ := Aside0.mk (below_step (by repeat (with_reducible first | exact HB.out | apply below_alloc | apply pw_below_drewN | apply below_drew1)) hb); clear HB; have HO105 := n0_; have HB := n1_; clear n0_ n1_; clear hb ho6))
  go_loopg [0, 6] k (fun kq v0 v6 w' => ∃ (x0_1 : Int) (x5_1 : List Int) (x6_1 : Int), v0 = .int .i64 x0_1 ∧ v6 = .int .i64 x6_1 ∧ Aside0 (be_Bytes.l0 kq x0_1 x5_1 x6_1 = some r) ∧ Aside0 (kq ≤ k) ∧ Aside0 (Kd.R (Kd.int .u8) 5 w' w.heap.size (fun _ => True) v104 x5_1) ∧ Aside0 (Below w.heap.size w w'))
  case atStart => exact ⟨(a0), (y103), (wrap64 (a1 - 1)), (by first | rfl | (simp; done) | (simp [*]; done)), (by first | rfl | (simp; done) | (simp [*]; done)), H', ⟨Nat.le_refl _⟩, ⟨by (with_reducible repeat (first | apply Kd.R_alloc | apply Kd.R_drewN | apply Kd.R_drew)); exact HO105.out⟩, ⟨by repeat (with_reducible first | exact HB.out | apply below_alloc | apply pw_below_drewN | apply below_drew1)⟩⟩
  case round =>
    clear H'
    (try clear c3); (try clear c3b0); (try clear c3b1); (try clear c4); (try clear c4b0); (try clear c4b1)
    obtain ⟨x0_1, x5_1, x6_1, rfl, rfl, HA, HK1, HO_5, HB⟩ := hrel
    cases gk with
    | zero => exact absurd HA.out (by simp [be_Bytes.l0])
    | succ k1 =>
      have H := HA.out
      clear HA
      simp only [be_Bytes.l0] at H
      by_cases c7 : x6_1 ≥ 0
      · rw [if_pos c7] at H
        have c7b0 : decide (0 ≤ x6_1) = true := decide_eq_true c7
        clear c7
        by_cases c8 : 0 ≤ x6_1
        rotate_left
        · rw [if_neg c8] at H
          exact absurd H (by simp)
        rw [if_pos c8] at H
        have c8b0 : decide (0 ≤ x6_1) = true := decide_eq_true c8
        clear c8
        by_cases c9 : x6_1 < (x5_1.length : Int)
        rotate_left
        · rw [if_neg c9] at H
          exact absurd H (by simp)
        rw [if_pos c9] at H
        have c9b0 : decide (x6_1 < (x5_1.length : Int)) = true := decide_eq_true c9
        clear c9
        obtain ⟨y106, hy106⟩ : ∃ y_ : List Int, y_ = (x5_1.set (x6_1 : Int).toNat ((x0_1) % 256)) := ⟨_, rfl⟩
        replace H : (be_Bytes.l0 k1 (x0_1 / 256) y106 (wrap64 (x6_1 - 1))) = some r := by first | (rw [hy106]; with_reducible exact H) | (have H2_ := (Option.bind_some _ _).symm.trans H; rw [hy106]; with_reducible exact H2_) | (have H2_ := (Option.bind_some _ _).symm.trans H; with_reducible exact H2_) | with_reducible exact H | (rw [hy106]; exact H) | exact H
        have Ny106 := Aside0.mk hy106
        clear hy106
        have H' := Aside0.mk H
        clear H
        have p10 : 0 ≤ (x6_1 : Int) := of_decide_eq_true (by first | (with_reducible assumption) | assumption)
        have q10 : (x6_1 : Int) < ((x5_1.length : Int) : Int) := of_decide_eq_true (by first | (with_reducible assumption) | assumption)
        obtain ⟨go10, co10, eo10, gb10, gl10, cl10, HG10⟩ := Kd.R_form HO_5.out (by omega)
        (first | cases eo10 | (injection eo10 with ea_ en_ ec_; (first | subst ea_ | (injection ea_ with ea_; subst ea_)); subst ec_; clear en_))
        have GB10 := Aside0.mk gb10
        have GG10 := Aside0.mk HG10
        clear gb10 gl10 HG10
        obtain ⟨hx10_0, hf10_0⟩ := Kd.R_celln 0 HO_5.out (x6_1 : Int) p10 q10
        replace p10 := eq_true p10
        replace q10 := eq_true q10
        have HP11 := Kd.R_putg HO_5.out (x6_1 : Int) ((x0_1) % 256)
        go_wp2_with (first | ((with_reducible refine gate_store (t := 5) (p := 19) rfl ?_); refine store_event (t := 5) (p := 19) (v := ?vo_w12) (w1 := (wr.setCell ⟨go10, (x6_1 : Int).toNat, none⟩ (.int .u8 ((x0_1) % 256)))) ?hg ?ho ?hn ?hr ?_; (case ho => rfl); (case hg => rfl); (case hn => rfl); (case hr => first | (go_simp; done) | (go_simp; rfl)); intro w12 hw; have hg : wr.grownBy w12 (some go10) := (by rw [hw]; exact HP11.2); have hp_ : Kd.R (Kd.int .u8) 5 w12 w.heap.size (fun _ => True) (.slice (some ⟨go10, 0, none⟩) x5_1.length co10) y106 := (by rw [hw, Ny106.out]; exact HP11.1); clear HP11; have n0_ := Aside0.mk (hp_); have n1_ := Aside0.mk ((by rw [hw]; exact below_set (HB.out) GB10.out : Below w.heap.size w w12)); clear HO_5; clear HB; have HO_5 := n0_; have HB := n1_; clear n0_ n1_; clear hg hw hp_))
        go_roundg k1
        case measure => have := HK1.out; omega
        case rel => exact ⟨(x0_1 / 256), (y106), (wrap64 (x6_1 - 1)), (by first | rfl | (simp; done) | (simp [*]; done)), (by first | rfl | (simp; done) | (simp [*]; done)), H', ⟨by have := HK1.out; omega⟩, ⟨by (with_reducible repeat (first | apply Kd.R_alloc | apply Kd.R_drewN | apply Kd.R_drew)); exact HO_5.out⟩, ⟨by repeat (with_reducible first | exact HB.out | apply below_alloc | apply pw_below_drewN | apply below_drew1)⟩⟩
      rw [if_neg c7] at H
      have c7b0 : decide (0 ≤ x6_1) = false := decide_eq_false c7
      clear c7
      obtain rfl := Option.some.inj H
      have hcv13 := own_string (P := Try.prog) Try.underlying28 Try.underlying5 Try.underlying9 (Kd.own_of_R HO_5.out)
      go_wp2
      go_ret
      exact ⟨by first | rfl | (simp [errW_none, errW_some] <;> rfl) | (simp [*, errW_none, errW_some] <;> rfl), by repeat (with_reducible first | exact HB.out | apply below_alloc | apply pw_below_drewN | apply below_drew1)⟩

/-! ### ident_May: function 54 -/
def ident_May.f (a0 : ByteArray) : Option (Bool) := if (a0.size : Int) ≥ 1 then (some (decide ((a0.size : Int) ≤ 16))) else (some false)
set_option maxHeartbeats 8000000 in
set_option maxRecDepth 100000 in
theorem ident_May.calls (a0 : ByteArray) (r : Bool) (w : World) (h : ident_May.f a0 = some r) :
    Calls Try.prog 54 #[.string a0] w fun e w' => e = .returned (.bool r) ∧ Drawn0 w w' := by
  have H : (if (a0.size : Int) ≥ 1 then (some (decide ((a0.size : Int) ≤ 16))) else (some false)) = some r := h
  clear h
  by_cases c2 : (a0.size : Int) ≥ 1
  · rw [if_pos c2] at H
    have c2b0 : decide (1 ≤ (a0.size : Int)) = true := decide_eq_true c2
    have c2b1 : decide (1 ≤ a0.size) = true := decide_eq_true (by omega)
    clear c2
    obtain rfl := Option.some.inj H
    go_enter Try.func54, Try.ntmps54
    go_wp2
    go_ret
    exact ⟨by first | rfl | (simp; done) | (simp [*]; done), by repeat (first | exact Drawn0.refl _ | apply Drawn0.step)⟩
  rw [if_neg c2] at H
  have c2b0 : decide (1 ≤ (a0.size : Int)) = false := decide_eq_false c2
  have c2b1 : decide (1 ≤ a0.size) = false := decide_eq_false (by omega)
  clear c2
  obtain rfl := Option.some.inj H
  go_enter Try.func54, Try.ntmps54
  go_wp2
  go_ret
  exact ⟨by first | rfl | (simp; done) | (simp [*]; done), by repeat (first | exact Drawn0.refl _ | apply Drawn0.step)⟩

end Go.Proofs.Ytpfanafggmkejaa.PIdentSame
