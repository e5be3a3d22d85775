-- Made by wip/pr.py out of the translation (a turned copy of the kit's print; contracts by hand where said).
import Derived.Test.YtpfanafggmkejaaPIdentDigestx0
import Derived.Test.YtpfanafggmkejaaPIdentDigestx1
namespace Go.Proofs.Ytpfanafggmkejaa.PIdentDigest
open Go.RowKit Go.Proofs.YtpfanafggmkejaaW.PrintWords Go.Proofs.YtpfanafggmkejaaW.PrintLast Go.Proofs.YtpfanafggmkejaaW.PrintMore
attribute [local go_sem] max2_int min2_int max_two min_two max_three min_three max_four min_four   -- for this text's walks alone
set_option linter.unusedVariables false
set_option linter.unusedSimpArgs false

/-! ### opts_May: function 71 -/
-- BY HAND
/-- the codes that a map holds. -/
def opts_May.D (cs : List Int) : DataW Unit := cs.foldl (fun D c => D.put (.int .i64 c) (.lit (.bool true))) (.map [])
theorem opts_May.D_snoc (cs : List Int) (c : Int) : opts_May.D (cs ++ [c]) = (opts_May.D cs).put (.int .i64 c) (.lit (.bool true)) := by
  unfold opts_May.D
  rw [List.foldl_append]
  rfl
theorem opts_May.fold_at (c : Int) : ∀ (cs : List Int) (M : DataW Unit), Maps.IsMap M → (cs.foldl (fun D c => D.put (.int .i64 c) (.lit (.bool true))) M).atKey (.int .i64 c) (.lit (.bool false)) = if c ∈ cs then .lit (.bool true) else M.atKey (.int .i64 c) (.lit (.bool false))
  | [], M, _ => by simp
  | d :: cs, M, h => by
    rw [List.foldl_cons, opts_May.fold_at c cs _ (h.put _ _)]
    by_cases hc : c ∈ cs
    · rw [if_pos hc, if_pos (List.mem_cons_of_mem _ hc)]
    · rw [if_neg hc]
      by_cases hd : c = d
      · subst hd
        rw [if_pos List.mem_cons_self, Maps.atKey_put_same h (by trivial)]
      · rw [if_neg (by simp [hd, hc]), Maps.atKey_put_other (by simp [hd])]
theorem opts_May.D_at (cs : List Int) (c : Int) : (opts_May.D cs).atKey (.int .i64 c) (.lit (.bool false)) = .lit (.bool (decide (c ∈ cs))) := by
  unfold opts_May.D
  rw [opts_May.fold_at c cs _ Maps.isMap_empty]
  by_cases hc : c ∈ cs
  · rw [if_pos hc, decide_eq_true hc]
  · rw [if_neg hc, decide_eq_false hc]
    rfl
theorem opts_May.bool_inv {P : Program} {e : TypeId} (he : P.underlying e = some .bool) {v : Value} {z : DataW Unit × List MemPlace} (h : plainElem P e v = some z) : ∃ x, v = .bool x ∧ z = (.lit (.bool x), []) := by
  unfold plainElem at h
  rw [he] at h
  cases v <;> simp at h
  exact ⟨_, rfl, h.symm⟩
/-- block b is a map of these codes. -/
def opts_May.Own (w : World) (b n : Nat) (cs : List Int) : Prop := w.ownsMap Try.prog 3 (plainElem (H := Unit) Try.prog 4) b n (opts_May.D cs)
theorem opts_May.zero (w : World) : (zeroValue 4).run Try.prog w = .ok (.bool false) w := by kernel_rfl
theorem opts_May.Own.look {w : World} {b n : Nat} {cs : List Int} (h : opts_May.Own w b n cs) {c : Int} (h0 : 0 < c) (h1 : c < 255) :
    (Instr.lookup 112 (.map (some b)) (.int .i64 c) false).run Try.prog w = .ok (.bool (decide (c ∈ cs))) w := by
  obtain ⟨v, ps, hrun, hv⟩ := World.ownsMap.lookup h (Maps.int_keyed Try.underlying3) Try.underlying112 (opts_May.zero w) (plainElem_bool Try.underlying4 false) (Maps.keyOf_int_mk Try.underlying3 (a := c) (WalkArith.wf_i64 (by omega)))
  obtain ⟨x, rfl, e⟩ := opts_May.bool_inv Try.underlying4 hv
  rw [opts_May.D_at] at e
  obtain ⟨rfl, _⟩ : decide (c ∈ cs) = x ∧ ps = [] := by simpa using e
  exact hrun
/-- the options' codes: each in its range, none twice; no data too long. -/
def opts_May.go : List Int → List S65 → Bool
  | _, [] => true
  | cs, x :: r => if 0 < x.f0 ∧ x.f0 < 255 ∧ x.f0 ∉ cs ∧ x.f1.size ≤ 512 then opts_May.go (cs ++ [x.f0]) r else false
def opts_May.f (l0 : List S65) : Option Bool := if l0.length ≤ 140737488351232 then some (opts_May.go [] l0 && decide (l0.length ≤ 32)) else none
theorem opts_May.drop (l0 : List S65) (i : Int) (h0 : 0 ≤ i) (h1 : i < l0.length) : l0.drop i.toNat = rd_T65 l0 i :: l0.drop (i.toNat + 1) := by
  have h : i.toNat < l0.length := by omega
  rw [List.drop_eq_getElem_cons h]
  unfold rd_T65
  rw [List.getD_eq_getElem?_getD, List.getElem?_eq_getElem h]
  rfl
set_option maxHeartbeats 8000000 in
set_option maxRecDepth 100000 in
theorem opts_May.calls (A0 : Option Addr) (c0 : Nat) (l0 : List (S65)) (r : Bool) (w : World) (hr0 : Kd.C k65 w A0 l0.length l0) (hc0 : l0.length ≤ c0) (h : opts_May.f l0 = some r) :
    Calls Try.prog 71 #[.slice A0 l0.length c0] w fun e w' => e = .returned (.bool r) ∧ Below w.heap.size w w' := by
  unfold opts_May.f at h
  by_cases hs : l0.length ≤ 140737488351232
  · rw [if_pos hs] at h
    obtain rfl := Option.some.inj h
    clear h
    have HR0 := Aside0.mk hr0
    clear hr0 hc0
    have hmm := @run_makeMap Try.prog
    go_enter Try.func71, Try.ntmps71
    go_wp2
    clear hmm
    go_loopg [9] l0.length (fun d v9 w' => ∃ (i : Int) (cs : List Int), 0 ≤ i ∧ i.toNat + d = l0.length ∧ v9 = .int .i64 i ∧ Aside0 (opts_May.Own w' w.heap.size i.toNat cs) ∧ Aside0 (Below w.heap.size w w') ∧ Aside0 (opts_May.go [] l0 = opts_May.go cs (l0.drop i.toNat)))
    case atStart => exact ⟨0, [], by omega, by simp, rfl, ⟨World.ownsMap_made _ _ _ _⟩, ⟨(Below.refl _ _).alloc (Nat.le_refl _) _⟩, ⟨rfl⟩⟩
    case round =>
      obtain ⟨i, cs, hi0, hd, rfl, HM, HB, HS⟩ := hrel
      by_cases hlt : i < (l0.length : Int)
      · obtain ⟨ad, e1, hx0, hx1⟩ := at_T65 HR0.out i hi0 hlt
        cases e1
        replace hx0 := (HB.out.cell (World.block_lt_of_cell? w _ hx0)).trans hx0
        replace hx1 := (HB.out.cell (World.block_lt_of_cell? w _ hx1)).trans hx1
        have HD := HS.out
        rw [opts_May.drop l0 i hi0 hlt] at HD
        clear HS
        generalize rd_T65 l0 i = x at hx0 hx1 HD
        obtain ⟨c, s⟩ := x
        replace HD := Aside0.mk HD
        simp only at hx0 hx1
        have fin : ¬ (0 < c ∧ c < 255 ∧ c ∉ cs ∧ s.size ≤ 512) → opts_May.go [] l0 = false := fun e => by
          rw [HD.out]
          unfold opts_May.go
          rw [if_neg e]
        replace fin := Aside0.mk fin
        by_cases q1 : c ≤ 0
        · go_wp2
          go_ret
          exact ⟨by rw [fin.out (by omega)]; rfl, HB.out.alloc HB.out.size _⟩
        by_cases q2 : 255 ≤ c
        · go_wp2
          go_ret
          exact ⟨by rw [fin.out (by omega)]; rfl, HB.out.alloc HB.out.size _⟩
        have hlook := opts_May.Own.look (World.ownsMap.alloc HM.out (Obj.cells #[Value.int IntKind.i64 c, Value.string s] 65)) (c := c) (by omega) (by omega)
        by_cases q3 : c ∈ cs
        · rw [decide_eq_true q3] at hlook
          go_wp2
          go_ret
          exact ⟨by rw [fin.out (fun e => e.2.2.1 q3)]; rfl, HB.out.alloc HB.out.size _⟩
        rw [decide_eq_false q3] at hlook
        by_cases q4 : (512 : Int) < s.size
        · go_wp2
          go_ret
          exact ⟨by rw [fin.out (by omega)]; rfl, HB.out.alloc HB.out.size _⟩
        have hkey := Maps.keyOf_int_mk Try.underlying3 (a := c) (WalkArith.wf_i64 (by omega))
        have HN := Aside0.mk (show opts_May.go [] l0 = opts_May.go (cs ++ [c]) (l0.drop (i.toNat + 1)) by
          rw [HD.out]
          conv => lhs; unfold opts_May.go
          rw [if_pos (show 0 < c ∧ c < 255 ∧ c ∉ cs ∧ s.size ≤ 512 from ⟨by omega, by omega, q3, by omega⟩)])
        clear fin HD
        have hown := World.ownsMap.alloc HM.out (Obj.cells #[Value.int IntKind.i64 c, Value.string s] 65)
        go_wp2_with (first
          | (at_mapUpdate; refine wpList_mapUpdate_own _ rfl _ _ _ 112 rfl 3 4 (Maps.int_keyed Try.underlying3) Try.underlying112 _ w.heap.size i.toNat _ rfl hown (by unfold maxLen; omega) _ _ _ rfl rfl hkey _ [] (plainElem_bool Try.underlying4 true) ?_; intro w1 hown1 hgrow1)
          | go_in)
        go_roundg (l0.length - (i.toNat + 1))
        case measure => first | omega | (simp; omega)
        case rel =>
          have e2 : (i + 1).toNat = i.toNat + 1 := by omega
          refine ⟨i + 1, cs ++ [c], by omega, by omega, by go_num, ⟨?_⟩, ⟨?_⟩, ⟨?_⟩⟩
          · unfold opts_May.Own
            rw [opts_May.D_snoc, e2]
            exact hown1
          · exact (HB.out.alloc HB.out.size _).grown hgrow1 (HB.out.alloc HB.out.size _).size (fun j hj => by cases hj; exact Nat.le_refl _)
          · rw [e2]
            exact HN.out
      · have e3 : l0.drop i.toNat = [] := List.drop_eq_nil_of_le (by omega)
        have HE := Aside0.mk (show opts_May.go [] l0 = true by rw [HS.out, e3]; rfl)
        clear HS
        go_wp2
        go_ret
        have e4 : decide ((l0.length : Int) ≤ 32) = decide (l0.length ≤ 32) := decide_eq_decide.2 (by omega)
        refine ⟨?_, HB.out⟩
        rw [HE.out, Bool.true_and, ← e4]
        rfl
  · rw [if_neg hs] at h
    cases h

-- NOT PRINTED: function 80 (packet_Field_80)

-- NOT PRINTED: function 72 (packet_Field_72)

-- NOT PRINTED: function 73 (packet_fields)

/-! ### packet_May: function 51 -/
-- BY HAND
/-- does a number lie within so many bytes? -/
def packet_May.fit (x k : Int) : Bool := decide (0 ≤ x ∧ x < (if k = 1 then 256 else if k = 2 then 65536 else 4294967296))
set_option maxHeartbeats 8000000 in
set_option maxRecDepth 100000 in
theorem packet_May.fits (x k : Int) (hk : k = 1 ∨ k = 2 ∨ k = 4) (w : World) : Calls Try.prog 70 #[.int .i64 x, .int .i64 k] w fun e w' => e = .returned (.bool (packet_May.fit x k)) ∧ Drawn0 w w' := by
  have hf : ∀ b : Bool, (b = true ↔ 0 ≤ x ∧ x < (if k = 1 then 256 else if k = 2 then 65536 else 4294967296)) → (.bool (packet_May.fit x k) : Value) = .bool b := fun b h => by
    have : packet_May.fit x k = b := by
      unfold packet_May.fit
      rw [Bool.eq_iff_iff, h]
      exact decide_eq_true_iff
    rw [this]
  by_cases h : 0 ≤ x
  · rcases hk with rfl | rfl | rfl
    · rw [hf (x / 256 == 0) (by rw [beq_iff_eq, if_pos rfl]; omega)]
      go_enter Try.func70, Try.ntmps70
      go_wp2
      go_ret
      exact ⟨rfl, ⟨0, rfl⟩⟩
    · rw [hf (x / 65536 == 0) (by rw [beq_iff_eq, if_neg (by decide), if_pos rfl]; omega)]
      go_enter Try.func70, Try.ntmps70
      go_wp2
      go_ret
      exact ⟨rfl, ⟨0, rfl⟩⟩
    · rw [hf (x / 4294967296 == 0) (by rw [beq_iff_eq, if_neg (by decide), if_neg (by decide)]; omega)]
      go_enter Try.func70, Try.ntmps70
      go_wp2
      go_ret
      exact ⟨rfl, ⟨0, rfl⟩⟩
  · rw [hf false (by simp; omega)]
    go_enter Try.func70, Try.ntmps70
    go_wp2
    go_ret
    exact ⟨rfl, ⟨0, rfl⟩⟩
set_option maxHeartbeats 8000000 in
set_option maxRecDepth 100000 in
theorem packet_May.odd (p : Addr) (x k : Int) (hk : k = 1 ∨ k = 2 ∨ k = 4) (w : World) (hc : w.cell? p = some (.int .i64 x)) :
    Calls Try.prog 69 #[.agg #[.pointer (some p), .int .i64 k]] w fun e w' => e = .returned (.bool (!packet_May.fit x k)) ∧ Below w.heap.size w w' := by
  have hlt := World.block_lt_of_cell? w _ hc
  have hF := fun W => packet_May.fits x k hk W
  generalize packet_May.fit x k = b at hF ⊢
  go_enter Try.func69, Try.ntmps69
  go_wp2
  go_quiet (first | (go_at_call 70; refine (hF _).mono ?_; rintro e w' ⟨rfl, ⟨nd, rfl⟩⟩; exact ⟨rfl, _, World.drewN_drewN _ _ _⟩))
  go_wp2
  go_ret
  exact ⟨rfl, by repeat (first | exact Below.refl _ _ | apply below_alloc | apply pw_below_drewN | apply below_drew1)⟩
set_option maxHeartbeats 8000000 in
set_option maxRecDepth 100000 in
theorem packet_May.index (xs : List (Addr × Int × Int)) (g c : Nat) (w : World) (hn : xs.length ≤ 1000)
    (hc : ∀ (j : Nat) (h : j < xs.length), w.cell? ⟨g, j * 2, none⟩ = some (.pointer (some (xs[j]'h).1)) ∧ w.cell? ⟨g, j * 2 + 1, none⟩ = some (.int .i64 (xs[j]'h).2.1) ∧ w.cell? (xs[j]'h).1 = some (.int .i64 (xs[j]'h).2.2) ∧ ((xs[j]'h).2.1 = 1 ∨ (xs[j]'h).2.1 = 2 ∨ (xs[j]'h).2.1 = 4)) :
    Calls Try.prog 80 #[.slice (some ⟨g, 0, none⟩) xs.length c, .func (.func 69) #[] #[]] w fun e w' => ∃ r : Int, e = .returned (.int .i64 r) ∧ decide (r ≥ 0) = !(xs.all fun y => packet_May.fit y.2.2 y.2.1) ∧ Below w.heap.size w w' := by
  have HC := Aside0.mk hc
  clear hc
  go_enter Try.func80, Try.ntmps80
  go_wp2
  go_loopg [5, 8] xs.length (fun gg _ s8 wr => ∃ kk : Nat, kk + gg = xs.length ∧ s8 = .int .i64 kk ∧ Aside0 (Below w.heap.size w wr) ∧ Aside0 (∀ (j : Nat) (h : j < xs.length), j < kk → packet_May.fit (xs[j]'h).2.2 (xs[j]'h).2.1 = true))
  case atStart => exact ⟨0, by omega, rfl, ⟨Below.refl _ w⟩, ⟨fun j _ hj => absurd hj (Nat.not_lt_zero _)⟩⟩
  case round =>
    obtain ⟨kk, hg, rfl, BW, A⟩ := hrel
    by_cases hlt : kk < xs.length
    · have hltz : (kk : Int) < (xs.length : Int) := by omega
      obtain ⟨h0, h1, h2, h3⟩ := HC.out kk hlt
      obtain ⟨⟨p, k, x⟩, hy⟩ : ∃ y, xs[kk]'hlt = y := ⟨_, rfl⟩
      have B := Aside0.mk hy
      rw [hy] at h0 h1 h2 h3
      clear hy
      simp only at h0 h1 h2 h3
      replace h0 := (BW.out.cell (World.block_lt_of_cell? w _ h0)).trans h0
      replace h1 := (BW.out.cell (World.block_lt_of_cell? w _ h1)).trans h1
      replace h2 := (BW.out.cell (World.block_lt_of_cell? w _ h2)).trans h2
      have hcall := packet_May.odd p x k h3 wr h2
      have hf : xs[kk].2.2 = x ∧ xs[kk].2.1 = k := by rw [B.out]; exact ⟨rfl, rfl⟩
      replace hf := Aside0.mk hf
      clear h2 h3 B
      cases hq : packet_May.fit x k with
      | false =>
        rw [hq] at hcall
        have hq' := Aside0.mk hq
        clear hq
        go_wp2_with (go_at_call 69; refine hcall.mono ?_; rintro e w' ⟨rfl, hb'⟩)
        go_ret
        refine ⟨kk, rfl, ?_, below_step BW.out hb'⟩
        have : (xs.all fun y => packet_May.fit y.2.2 y.2.1) = false := by
          rw [List.all_eq_false]
          exact ⟨xs[kk], List.getElem_mem hlt, by rw [hf.out.1, hf.out.2, hq'.out]; simp⟩
        rw [this, decide_eq_true (by omega)]
        rfl
      | true =>
        rw [hq] at hcall
        have hq' := Aside0.mk hq
        clear hq
        go_wp2_with (go_at_call 69; refine hcall.mono ?_; rintro e w' ⟨rfl, hb'⟩)
        go_roundg (xs.length - (kk + 1))
        case measure => omega
        case rel =>
          refine ⟨kk + 1, by omega, by go_num, ⟨below_step BW.out hb'⟩, ⟨fun j h hj => ?_⟩⟩
          by_cases e : j = kk
          · subst e
            rw [hf.out.1, hf.out.2]
            exact hq'.out
          · exact A.out j h (by omega)
    · have hltz : ¬ (kk : Int) < (xs.length : Int) := by omega
      go_wp2
      go_ret
      refine ⟨-1, rfl, ?_, BW.out⟩
      have : (xs.all fun y => packet_May.fit y.2.2 y.2.1) = true := by
        rw [List.all_eq_true]
        intro y hy
        obtain ⟨j, hj, rfl⟩ := List.getElem_of_mem hy
        exact A.out j hj (by omega)
      rw [this, decide_eq_false (by omega)]
      rfl
set_option maxHeartbeats 8000000 in
set_option maxRecDepth 100000 in
theorem packet_May.contains (xs : List (Addr × Int × Int)) (g c : Nat) (w : World) (hn : xs.length ≤ 1000)
    (hc : ∀ (j : Nat) (h : j < xs.length), w.cell? ⟨g, j * 2, none⟩ = some (.pointer (some (xs[j]'h).1)) ∧ w.cell? ⟨g, j * 2 + 1, none⟩ = some (.int .i64 (xs[j]'h).2.1) ∧ w.cell? (xs[j]'h).1 = some (.int .i64 (xs[j]'h).2.2) ∧ ((xs[j]'h).2.1 = 1 ∨ (xs[j]'h).2.1 = 2 ∨ (xs[j]'h).2.1 = 4)) :
    Calls Try.prog 72 #[.slice (some ⟨g, 0, none⟩) xs.length c, .func (.func 69) #[] #[]] w fun e w' => e = .returned (.bool (!(xs.all fun y => packet_May.fit y.2.2 y.2.1))) ∧ Below w.heap.size w w' := by
  have hcall := packet_May.index xs g c w hn hc
  clear hc
  generalize (!(xs.all fun y => packet_May.fit y.2.2 y.2.1)) = b at hcall ⊢
  go_enter Try.func72, Try.ntmps72
  go_wp2_with (go_at_call 80; refine hcall.mono ?_; rintro e w' ⟨r, rfl, rfl, hb'⟩)
  go_ret
  exact ⟨rfl, hb'⟩
/-- a packet's numbers: where they lie, how many bytes they have. -/
def packet_May.cells (b b2 : Nat) : Array Value := #[.pointer (some ⟨b, 0, none⟩), .int .i64 1, .pointer (some ⟨b, 1, none⟩), .int .i64 1, .pointer (some ⟨b2, 0, none⟩), .int .i64 1, .pointer (some ⟨b, 2, none⟩), .int .i64 1, .pointer (some ⟨b, 3, none⟩), .int .i64 4, .pointer (some ⟨b, 4, none⟩), .int .i64 2, .pointer (some ⟨b, 5, none⟩), .int .i64 2, .pointer (some ⟨b, 6, none⟩), .int .i64 4, .pointer (some ⟨b, 7, none⟩), .int .i64 4, .pointer (some ⟨b, 8, none⟩), .int .i64 4, .pointer (some ⟨b, 9, none⟩), .int .i64 4]
def packet_May.xs (b b2 : Nat) (a0 a1 a2 a3 a4 a5 a6 a7 a8 a9 n : Int) : List (Addr × Int × Int) := [(⟨b, 0, none⟩, 1, a0), (⟨b, 1, none⟩, 1, a1), (⟨b2, 0, none⟩, 1, n), (⟨b, 2, none⟩, 1, a2), (⟨b, 3, none⟩, 4, a3), (⟨b, 4, none⟩, 2, a4), (⟨b, 5, none⟩, 2, a5), (⟨b, 6, none⟩, 4, a6), (⟨b, 7, none⟩, 4, a7), (⟨b, 8, none⟩, 4, a8), (⟨b, 9, none⟩, 4, a9)]
theorem packet_May.holds {w : World} {g b b2 : Nat} {a0 a1 a2 a3 a4 a5 a6 a7 a8 a9 n : Int} {v10 v11 : Value} (hg : w.heap[g]? = some (.cells (packet_May.cells b b2) 99))
    (hb : w.heap[b]? = some (.cells #[.int .i64 a0, .int .i64 a1, .int .i64 a2, .int .i64 a3, .int .i64 a4, .int .i64 a5, .int .i64 a6, .int .i64 a7, .int .i64 a8, .int .i64 a9, v10, v11] 54)) (hl : w.heap[b2]? = some (.cells #[.int .i64 n] 3)) (j : Nat) (h : j < (packet_May.xs b b2 a0 a1 a2 a3 a4 a5 a6 a7 a8 a9 n).length) :
    w.cell? ⟨g, j * 2, none⟩ = some (.pointer (some ((packet_May.xs b b2 a0 a1 a2 a3 a4 a5 a6 a7 a8 a9 n)[j]'h).1)) ∧ w.cell? ⟨g, j * 2 + 1, none⟩ = some (.int .i64 ((packet_May.xs b b2 a0 a1 a2 a3 a4 a5 a6 a7 a8 a9 n)[j]'h).2.1) ∧ w.cell? ((packet_May.xs b b2 a0 a1 a2 a3 a4 a5 a6 a7 a8 a9 n)[j]'h).1 = some (.int .i64 ((packet_May.xs b b2 a0 a1 a2 a3 a4 a5 a6 a7 a8 a9 n)[j]'h).2.2) ∧ (((packet_May.xs b b2 a0 a1 a2 a3 a4 a5 a6 a7 a8 a9 n)[j]'h).2.1 = 1 ∨ ((packet_May.xs b b2 a0 a1 a2 a3 a4 a5 a6 a7 a8 a9 n)[j]'h).2.1 = 2 ∨ ((packet_May.xs b b2 a0 a1 a2 a3 a4 a5 a6 a7 a8 a9 n)[j]'h).2.1 = 4) := by
  match j, h with
  | 0, _ => exact ⟨(blk_cell hg 0).trans rfl, (blk_cell hg 1).trans rfl, (blk_cell hb 0).trans rfl, .inl rfl⟩
  | 1, _ => exact ⟨(blk_cell hg 2).trans rfl, (blk_cell hg 3).trans rfl, (blk_cell hb 1).trans rfl, .inl rfl⟩
  | 2, _ => exact ⟨(blk_cell hg 4).trans rfl, (blk_cell hg 5).trans rfl, (blk_cell hl 0).trans rfl, .inl rfl⟩
  | 3, _ => exact ⟨(blk_cell hg 6).trans rfl, (blk_cell hg 7).trans rfl, (blk_cell hb 2).trans rfl, .inl rfl⟩
  | 4, _ => exact ⟨(blk_cell hg 8).trans rfl, (blk_cell hg 9).trans rfl, (blk_cell hb 3).trans rfl, .inr (.inr rfl)⟩
  | 5, _ => exact ⟨(blk_cell hg 10).trans rfl, (blk_cell hg 11).trans rfl, (blk_cell hb 4).trans rfl, .inr (.inl rfl)⟩
  | 6, _ => exact ⟨(blk_cell hg 12).trans rfl, (blk_cell hg 13).trans rfl, (blk_cell hb 5).trans rfl, .inr (.inl rfl)⟩
  | 7, _ => exact ⟨(blk_cell hg 14).trans rfl, (blk_cell hg 15).trans rfl, (blk_cell hb 6).trans rfl, .inr (.inr rfl)⟩
  | 8, _ => exact ⟨(blk_cell hg 16).trans rfl, (blk_cell hg 17).trans rfl, (blk_cell hb 7).trans rfl, .inr (.inr rfl)⟩
  | 9, _ => exact ⟨(blk_cell hg 18).trans rfl, (blk_cell hg 19).trans rfl, (blk_cell hb 8).trans rfl, .inr (.inr rfl)⟩
  | 10, _ => exact ⟨(blk_cell hg 20).trans rfl, (blk_cell hg 21).trans rfl, (blk_cell hb 9).trans rfl, .inr (.inr rfl)⟩
  | q + 11, h => exact absurd h (by simp [packet_May.xs])
set_option maxHeartbeats 8000000 in
set_option maxRecDepth 100000 in
theorem packet_May.fields (b b2 : Nat) (w : World) :
    Calls Try.prog 73 #[.pointer (some ⟨b, 0, none⟩), .pointer (some ⟨b2, 0, none⟩)] w fun e w' => ∃ g : Nat, e = .returned (.slice (some ⟨g, 0, none⟩) 11 11) ∧ w'.heap[g]? = some (.cells (packet_May.cells b b2) 99) ∧ Below w.heap.size w w' := by
  go_enter Try.func73, Try.ntmps73
  go_wp2
  go_region
  go_wp2
  go_ret
  exact ⟨_, rfl, by unfold packet_May.cells; exact blk_new _ _, by repeat (first | exact Below.refl _ _ | apply below_alloc | apply pw_below_drewN | apply below_drew1)⟩
def packet_May.ok (a0_10 : Int) (a0_0 : Int) (a0_1 : Int) (a0_2 : Int) (a0_3 : Int) (a0_4 : Int) (a0_5 : Int) (a0_6 : Int) (a0_7 : Int) (a0_8 : Int) (a0_9 : Int) : Bool := (packet_May.xs 0 0 a0_0 a0_1 a0_2 a0_3 a0_4 a0_5 a0_6 a0_7 a0_8 a0_9 a0_10).all fun y => packet_May.fit y.2.2 y.2.1
theorem packet_May.all_ (b b2 : Nat) (n : Int) (a0_0 : Int) (a0_1 : Int) (a0_2 : Int) (a0_3 : Int) (a0_4 : Int) (a0_5 : Int) (a0_6 : Int) (a0_7 : Int) (a0_8 : Int) (a0_9 : Int) : ((packet_May.xs b b2 a0_0 a0_1 a0_2 a0_3 a0_4 a0_5 a0_6 a0_7 a0_8 a0_9 n).all fun y => packet_May.fit y.2.2 y.2.1) = packet_May.ok n a0_0 a0_1 a0_2 a0_3 a0_4 a0_5 a0_6 a0_7 a0_8 a0_9 := rfl
theorem packet_May.contains' {w : World} {g b b2 : Nat} {a0 a1 a2 a3 a4 a5 a6 a7 a8 a9 n : Int} {v10 v11 : Value} {bb : Bool} (hg : w.heap[g]? = some (.cells (packet_May.cells b b2) 99))
    (hb : w.heap[b]? = some (.cells #[.int .i64 a0, .int .i64 a1, .int .i64 a2, .int .i64 a3, .int .i64 a4, .int .i64 a5, .int .i64 a6, .int .i64 a7, .int .i64 a8, .int .i64 a9, v10, v11] 54)) (hl : w.heap[b2]? = some (.cells #[.int .i64 n] 3)) (hbb : packet_May.ok n a0 a1 a2 a3 a4 a5 a6 a7 a8 a9 = bb) :
    Calls Try.prog 72 #[.slice (some ⟨g, 0, none⟩) 11 11, .func (.func 69) #[] #[]] w fun e w' => e = .returned (.bool (!bb)) ∧ Below w.heap.size w w' := by
  have h := packet_May.contains (packet_May.xs b b2 a0 a1 a2 a3 a4 a5 a6 a7 a8 a9 n) g 11 w (by simp [packet_May.xs]) (packet_May.holds hg hb hl)
  rw [packet_May.all_, hbb] at h
  exact h
def packet_May.f (a0_0 : Int) (a0_1 : Int) (a0_2 : Int) (a0_3 : Int) (a0_4 : Int) (a0_5 : Int) (a0_6 : Int) (a0_7 : Int) (a0_8 : Int) (a0_9 : Int) (a0_10 : ByteArray) (l0_11 : List S65) : Option Bool :=
  if a0_10.size ≤ 16 then (opts_May.f l0_11).bind fun t => if t = true then some (packet_May.ok a0_10.size a0_0 a0_1 a0_2 a0_3 a0_4 a0_5 a0_6 a0_7 a0_8 a0_9) else some false else some false
set_option maxHeartbeats 8000000 in
set_option maxRecDepth 100000 in
theorem packet_May.calls (a0_0 : Int) (a0_1 : Int) (a0_2 : Int) (a0_3 : Int) (a0_4 : Int) (a0_5 : Int) (a0_6 : Int) (a0_7 : Int) (a0_8 : Int) (a0_9 : Int) (a0_10 : ByteArray) (A0_11 : Option Addr) (c0_11 : Nat) (l0_11 : List (S65)) (r : Bool) (w : World) (hr0_11 : Kd.C k65 w A0_11 l0_11.length l0_11) (hc0_11 : l0_11.length ≤ c0_11) (h : packet_May.f a0_0 a0_1 a0_2 a0_3 a0_4 a0_5 a0_6 a0_7 a0_8 a0_9 a0_10 l0_11 = some r) :
    Calls Try.prog 51 #[.agg #[.int .i64 a0_0, .int .i64 a0_1, .int .i64 a0_2, .int .i64 a0_3, .int .i64 a0_4, .int .i64 a0_5, .int .i64 a0_6, .int .i64 a0_7, .int .i64 a0_8, .int .i64 a0_9, .string a0_10, .slice A0_11 l0_11.length c0_11]] w fun e w' => e = .returned (.bool r) ∧ Below w.heap.size w w' := by
  have HR := Aside0.mk hr0_11
  have HC := Aside0.mk hc0_11
  clear hr0_11 hc0_11
  unfold packet_May.f at h
  by_cases q : a0_10.size ≤ 16
  · rw [if_pos q] at h
    obtain ⟨t, ht, h⟩ := Option.bind_eq_some_iff.1 h
    have HT := Aside0.mk ht
    clear ht
    have qz : (a0_10.size : Int) ≤ 16 := by omega
    cases t with
    | false =>
      obtain rfl : false = r := by simpa using h
      clear h
      go_enter Try.func51, Try.ntmps51
      go_wp2_with (first | (go_at_call 71; refine (opts_May.calls _ _ _ _ _ (Kd.C_below HR.out (by repeat (first | exact Below.refl _ _ | apply below_alloc | apply pw_below_drewN | apply below_drew1))) HC.out HT.out).mono ?_; rintro e w1 ⟨rfl, hb1⟩; replace hb1 := below_step (show Below w.heap.size w _ by repeat (first | exact Below.refl _ _ | apply below_alloc | apply pw_below_drewN | apply below_drew1)) hb1))
      go_ret
      exact ⟨rfl, hb1⟩
    | true =>
      obtain ⟨bb, hbb⟩ : ∃ bb, packet_May.ok a0_10.size a0_0 a0_1 a0_2 a0_3 a0_4 a0_5 a0_6 a0_7 a0_8 a0_9 = bb := ⟨_, rfl⟩
      obtain rfl : bb = r := by simpa [hbb] using h
      clear h
      have HBB := Aside0.mk hbb
      clear hbb
      go_enter Try.func51, Try.ntmps51
      go_wp2_with (first
        | (go_at_call 71; refine (opts_May.calls _ _ _ _ _ (Kd.C_below HR.out (by repeat (first | exact Below.refl _ _ | apply below_alloc | apply pw_below_drewN | apply below_drew1))) HC.out HT.out).mono ?_; rintro e w1 ⟨rfl, hb1⟩; have e54 := Aside0.mk (blk_below (blk_below (blk_new w (.cells #[.int .i64 a0_0, .int .i64 a0_1, .int .i64 a0_2, .int .i64 a0_3, .int .i64 a0_4, .int .i64 a0_5, .int .i64 a0_6, .int .i64 a0_7, .int .i64 a0_8, .int .i64 a0_9, .string a0_10, .slice A0_11 l0_11.length c0_11] 54)) (below_alloc (Below.refl _ _) _)) hb1); have eL := Aside0.mk (show w1.heap[w.heap.size + 1]? = some (.cells #[.int .i64 a0_10.size] 3) by have := blk_below (blk_new (w.alloc (.cells #[.int .i64 a0_0, .int .i64 a0_1, .int .i64 a0_2, .int .i64 a0_3, .int .i64 a0_4, .int .i64 a0_5, .int .i64 a0_6, .int .i64 a0_7, .int .i64 a0_8, .int .i64 a0_9, .string a0_10, .slice A0_11 l0_11.length c0_11] 54)) (.cells #[.int .i64 a0_10.size] 3)) hb1; simpa using this); have HB := Aside0.mk (below_step (show Below w.heap.size w _ by repeat (first | exact Below.refl _ _ | apply below_alloc | apply pw_below_drewN | apply below_drew1)) hb1); clear hb1)
        | (go_at_call 73; refine (packet_May.fields _ _ _).mono ?_; rintro e w2 ⟨g, rfl, hg, hb2⟩; have EG := Aside0.mk hg; have e54' := Aside0.mk (blk_below e54.out hb2); have eL' := Aside0.mk (blk_below eL.out hb2); have HB' := Aside0.mk (below_step HB.out hb2); clear hg hb2)
        | (go_at_call 72; refine (packet_May.contains' EG.out e54'.out eL'.out HBB.out).mono ?_; rintro e w3 ⟨rfl, hb3⟩))
      go_ret
      exact ⟨by first | rfl | simp, below_step HB'.out hb3⟩
  · rw [if_neg q] at h
    obtain rfl : false = r := by simpa using h
    clear h
    have qz : ¬ (a0_10.size : Int) ≤ 16 := by omega
    go_enter Try.func51, Try.ntmps51
    go_wp2
    go_ret
    exact ⟨rfl, by repeat (first | exact Below.refl _ _ | apply below_alloc | apply pw_below_drewN | apply below_drew1)⟩

/-! ### opts_Find: function 52 -/
def opts_Find.l0 : Nat → Int → List (S65) → Int → Int → Option (ByteArray × Bool)
  | 0, _, _, _, _ => none
  | k + 1, x1, x8, x9, x10 => if x10 < x9 then (if 0 ≤ x10 then (if x10 < (x8.length : Int) then (if ((rd_T65 x8 x10).f0) = x1 then (some ((rd_T65 x8 x10).f1, true)) else (opts_Find.l0 k x1 x8 x9 (wrap64 (x10 + 1)))) else (none)) else (none)) else (some ((⟨#[]⟩ : ByteArray), false))
def opts_Find.f (k : Nat) (l0 : List (S65)) (a1 : Int) : Option (ByteArray × Bool) := opts_Find.l0 k a1 l0 (l0.length : Int) 0
theorem opts_Find.mono_l : ∀ k, (∀ y0 y1 y2 y3, LeO (opts_Find.l0 k y0 y1 y2 y3) (opts_Find.l0 (k + 1) y0 y1 y2 y3))
  | 0 => fun _ _ _ _ r h => by simp [opts_Find.l0] at h
  | k + 1 => by
    have ih0 := opts_Find.mono_l k
    · intro y0 y1 y2 y3
      unfold opts_Find.l0
      repeat' first
      | (with_reducible exact ih0 _ _ _ _)
      | (with_reducible exact LeO.refl _)
      | (with_reducible exact LeO.none _)
      | (with_reducible refine LeO.ite ?_ ?_)
      | (with_reducible refine LeO.bind ?_ (fun _ => ?_))
      | exact ih0 _ _ _ _
      | exact LeO.none _
      | refine LeO.ite ?_ ?_
      | refine LeO.bind ?_ (fun _ => ?_)
theorem opts_Find.mono : ∀ a0 a1 k, LeO (opts_Find.f k a0 a1) (opts_Find.f (k + 1) a0 a1) := by
  intro a0 a1 k
  have ih0 := opts_Find.mono_l k
  unfold opts_Find.f
  repeat' first
      | (with_reducible exact ih0 _ _ _ _)
      | (with_reducible exact LeO.refl _)
      | (with_reducible exact LeO.none _)
      | (with_reducible refine LeO.ite ?_ ?_)
      | (with_reducible refine LeO.bind ?_ (fun _ => ?_))
      | exact ih0 _ _ _ _
      | exact LeO.none _
      | refine LeO.ite ?_ ?_
      | refine LeO.bind ?_ (fun _ => ?_)
set_option maxHeartbeats 8000000 in
set_option maxRecDepth 100000 in
theorem opts_Find.calls (k : Nat) (A0 : Option Addr) (c0 : Nat) (l0 : List (S65)) (a1 : Int) (r1 : ByteArray) (r2 : Bool) (w : World) (hr0 : Kd.C k65 w A0 l0.length l0) (hc0 : l0.length ≤ c0) (h : opts_Find.f k l0 a1 = some (r1, r2)) :
    Calls Try.prog 52 #[.slice A0 l0.length c0, .int .i64 a1] w fun e w' => e = .returned (.tuple #[.string r1, .bool r2]) ∧ Below w.heap.size w w' := by
  have hu65 := Try.underlying65
  have HR0 := Aside0.mk hr0
  have HC0 := Aside0.mk hc0
  clear hr0 hc0
  have HB := Aside0.mk (Below.refl w.heap.size w)
  have H : (opts_Find.l0 k a1 l0 (l0.length : Int) 0) = some (r1, r2) := h
  clear h
  have H' := Aside0.mk H
  clear H
  go_enter Try.func52, Try.ntmps52
  go_wp2
  go_loopg [10] k (fun kq v10 w' => ∃ (x10_1 : Int), v10 = .int .i64 x10_1 ∧ Aside0 (opts_Find.l0 kq a1 l0 (l0.length : Int) x10_1 = some (r1, r2)) ∧ Aside0 (kq ≤ k) ∧ Aside0 (Below w.heap.size w w'))
  case atStart => exact ⟨(0), (by first | rfl | (simp; done) | (simp [*]; done)), H', ⟨Nat.le_refl _⟩, ⟨by repeat (with_reducible first | exact HB.out | apply below_alloc | apply pw_below_drewN | apply below_drew1)⟩⟩
  case round =>
    clear H'
    obtain ⟨x10_1, rfl, HA, HK1, HB⟩ := hrel
    cases gk with
    | zero => exact absurd HA.out (by simp [opts_Find.l0])
    | succ k1 =>
      have H := HA.out
      clear HA
      simp only [opts_Find.l0] at H
      by_cases c3 : x10_1 < (l0.length : Int)
      · rw [if_pos c3] at H
        have c3b0 : decide (x10_1 < (l0.length : Int)) = true := decide_eq_true c3
        clear c3
        by_cases c4 : 0 ≤ x10_1
        rotate_left
        · rw [if_neg c4] at H
          exact absurd H (by simp)
        rw [if_pos c4] at H
        have c4b0 : decide (0 ≤ x10_1) = true := decide_eq_true c4
        clear c4
        by_cases c5 : x10_1 < (l0.length : Int)
        rotate_left
        · rw [if_neg c5] at H
          exact absurd H (by simp)
        rw [if_pos c5] at H
        have c5b0 : decide (x10_1 < (l0.length : Int)) = true := decide_eq_true c5
        clear c5
        by_cases c6 : ((rd_T65 l0 x10_1).f0) = a1
        · rw [if_pos c6] at H
          have c6b0 : (((rd_T65 l0 x10_1).f0) == a1) = true := beq_iff_eq.mpr c6
          have c6b1 : (((rd_T65 l0 x10_1).f0) != a1) = false := bne_eq_false_iff_eq.mpr c6
          clear c6
          simp only [Option.some.injEq, Prod.mk.injEq] at H
          obtain ⟨rfl, rfl⟩ := H
          have p114 : 0 ≤ (x10_1 : Int) := of_decide_eq_true (by first | (with_reducible assumption) | assumption)
          have q114 : x10_1 < (l0.length : Int) := of_decide_eq_true (by first | (with_reducible assumption) | assumption)
          obtain ⟨ad114, e114, hx114_0, hx114_1⟩ := at_T65 HR0.out x10_1 p114 q114
          cases e114
          replace hx114_0 := (HB.out.cell (World.block_lt_of_cell? w _ hx114_0)).trans hx114_0
          replace hx114_1 := (HB.out.cell (World.block_lt_of_cell? w _ hx114_1)).trans hx114_1
          replace p114 := eq_true p114
          replace q114 := eq_true q114
          go_wp2_with (first | ((with_reducible refine gate_dst (N := 7) rfl ?_); refine box_event ?hg (N := 7) ?hd (cs := #[.int .i64 0, .string (⟨#[]⟩ : ByteArray)]) (t := 65) ?hr ?_; (case hd => rfl); (case hg => rfl); (case hr => first | (go_simp; done) | (go_simp; rfl)); intro gb115 hg w7 hbox hb; have n0_ := Aside0.mk (below_step (by repeat (with_reducible first | exact HB.out | apply below_alloc | apply pw_below_drewN | apply below_drew1)) hb); have n1_ := Aside0.mk (hbox); have n2_ := Aside0.mk ((by rw [hg]; exact (below_size (by repeat (with_reducible first | exact HB.out | apply below_alloc | apply pw_below_drewN | apply below_drew1))) : w.heap.size ≤ gb115)); have n3_ := Aside0.mk ((by rw [hg]; exact (below_size (by repeat (with_reducible first | exact HB.out | apply below_alloc | apply pw_below_drewN | apply below_drew1))) : w.heap.size ≤ gb115)); clear HB; have HB := n0_; have BK115 := n1_; have GW115 := n2_; have GE115 := n3_; clear n0_ n1_ n2_ n3_; clear hb hbox hg; have hcz8_0 : w7.cell? ⟨gb115, 0, none⟩ = some (.int .i64 0) := (blk_cell BK115.out 0).trans rfl; have hcz8_1 : w7.cell? ⟨gb115, 1, none⟩ = some (.string (⟨#[]⟩ : ByteArray)) := (blk_cell BK115.out 1).trans rfl; have hfz8_0 := blk_frozen BK115.out 0; have hfz8_1 := blk_frozen BK115.out 1))
          go_ret2
          exact ⟨by first | rfl | (simp [errW_none, errW_some] <;> rfl) | (simp [*, errW_none, errW_some] <;> rfl), by repeat (with_reducible first | exact HB.out | apply below_alloc | apply pw_below_drewN | apply below_drew1 | refine below_set ?_ GE115.out)⟩
        rw [if_neg c6] at H
        have c6b0 : (((rd_T65 l0 x10_1).f0) == a1) = false := beq_eq_false_iff_ne.mpr c6
        have c6b1 : (((rd_T65 l0 x10_1).f0) != a1) = true := bne_iff_ne.mpr c6
        have H' := Aside0.mk H
        clear H
        have p114 : 0 ≤ (x10_1 : Int) := of_decide_eq_true (by first | (with_reducible assumption) | assumption)
        have q114 : x10_1 < (l0.length : Int) := of_decide_eq_true (by first | (with_reducible assumption) | assumption)
        obtain ⟨ad114, e114, hx114_0, hx114_1⟩ := at_T65 HR0.out x10_1 p114 q114
        cases e114
        replace hx114_0 := (HB.out.cell (World.block_lt_of_cell? w _ hx114_0)).trans hx114_0
        replace hx114_1 := (HB.out.cell (World.block_lt_of_cell? w _ hx114_1)).trans hx114_1
        replace p114 := eq_true p114
        replace q114 := eq_true q114
        go_wp2_with (first | ((with_reducible refine gate_dst (N := 7) rfl ?_); refine box_event ?hg (N := 7) ?hd (cs := #[.int .i64 0, .string (⟨#[]⟩ : ByteArray)]) (t := 65) ?hr ?_; (case hd => rfl); (case hg => rfl); (case hr => first | (go_simp; done) | (go_simp; rfl)); intro gb115 hg w9 hbox hb; have n0_ := Aside0.mk (below_step (by repeat (with_reducible first | exact HB.out | apply below_alloc | apply pw_below_drewN | apply below_drew1)) hb); have n1_ := Aside0.mk (hbox); have n2_ := Aside0.mk ((by rw [hg]; exact (below_size (by repeat (with_reducible first | exact HB.out | apply below_alloc | apply pw_below_drewN | apply below_drew1))) : w.heap.size ≤ gb115)); have n3_ := Aside0.mk ((by rw [hg]; exact (below_size (by repeat (with_reducible first | exact HB.out | apply below_alloc | apply pw_below_drewN | apply below_drew1))) : w.heap.size ≤ gb115)); clear HB; have HB := n0_; have BK115 := n1_; have GW115 := n2_; have GE115 := n3_; clear n0_ n1_ n2_ n3_; clear hb hbox hg; have hcz10_0 : w9.cell? ⟨gb115, 0, none⟩ = some (.int .i64 0) := (blk_cell BK115.out 0).trans rfl; have hcz10_1 : w9.cell? ⟨gb115, 1, none⟩ = some (.string (⟨#[]⟩ : ByteArray)) := (blk_cell BK115.out 1).trans rfl; have hfz10_0 := blk_frozen BK115.out 0; have hfz10_1 := blk_frozen BK115.out 1))
        go_roundg k1
        case measure => have := HK1.out; omega
        case rel => exact ⟨(wrap64 (x10_1 + 1)), (by first | rfl | (simp; done) | (simp [*]; done)), H', ⟨by have := HK1.out; omega⟩, ⟨by repeat (with_reducible first | exact HB.out | apply below_alloc | apply pw_below_drewN | apply below_drew1 | refine below_set ?_ GE115.out)⟩⟩
      rw [if_neg c3] at H
      have c3b0 : decide (x10_1 < (l0.length : Int)) = false := decide_eq_false c3
      clear c3
      simp only [Option.some.injEq, Prod.mk.injEq] at H
      obtain ⟨rfl, rfl⟩ := H
      go_wp2
      go_ret2
      exact ⟨by first | rfl | (simp [errW_none, errW_some] <;> rfl) | (simp [*, errW_none, errW_some] <;> rfl), by repeat (with_reducible first | exact HB.out | apply below_alloc | apply pw_below_drewN | apply below_drew1)⟩

/-! ### ident_Client: function 30 -/
def ident_Client.j0 : Nat → ByteArray → Bool → Int → Int → Int → Int → Int → Int → Int → Int → Int → Int → ByteArray → List (S65) → Option (ByteArray × Int)
  | 0, _, _, _, _, _, _, _, _, _, _, _, _, _, _ => none
  | k + 1, x4, x21, x117000, x117001, x117002, x117003, x117004, x117005, x117006, x117007, x117008, x117009, x117010, x117011 => if x21 = true then ((be_Bytes.f k x117001 1).bind fun t120 => (if t120.size + x117010.size ≤ 9223372036854775807 then ((ident_May.f (t120 ++ x117010)).bind fun t121 => (if t121 = true then (some (t120 ++ x117010, 0)) else (some ((⟨#[]⟩ : ByteArray), 900)))) else (none))) else ((ident_May.f x4).bind fun t122 => (if t122 = true then (some (x4, 0)) else (some ((⟨#[]⟩ : ByteArray), 900))))
def ident_Client.f (k : Nat) (a0_0 : Int) (a0_1 : Int) (a0_2 : Int) (a0_3 : Int) (a0_4 : Int) (a0_5 : Int) (a0_6 : Int) (a0_7 : Int) (a0_8 : Int) (a0_9 : Int) (a0_10 : ByteArray) (l0_11 : List (S65)) : Option (ByteArray × Int) := (packet_May.f a0_0 a0_1 a0_2 a0_3 a0_4 a0_5 a0_6 a0_7 a0_8 a0_9 a0_10 l0_11).bind fun t117 => (if t117 = true then ((opts_Find.f k l0_11 61).bind fun bt118 => (if bt118.2 = true then (ident_Client.j0 k bt118.1 false a0_0 a0_1 a0_2 a0_3 a0_4 a0_5 a0_6 a0_7 a0_8 a0_9 a0_10 l0_11) else (ident_Client.j0 k bt118.1 (a0_10.toList != ([] : List UInt8)) a0_0 a0_1 a0_2 a0_3 a0_4 a0_5 a0_6 a0_7 a0_8 a0_9 a0_10 l0_11))) else (some ((⟨#[]⟩ : ByteArray), 900)))
theorem ident_Client.mono_l : ∀ k, (∀ y0 y1 y2 y3 y4 y5 y6 y7 y8 y9 y10 y11 y12 y13, LeO (ident_Client.j0 k y0 y1 y2 y3 y4 y5 y6 y7 y8 y9 y10 y11 y12 y13) (ident_Client.j0 (k + 1) y0 y1 y2 y3 y4 y5 y6 y7 y8 y9 y10 y11 y12 y13))
  | 0 => fun _ _ _ _ _ _ _ _ _ _ _ _ _ _ r h => by simp [ident_Client.j0] at h
  | k + 1 => by
    have ih0 := ident_Client.mono_l k
    · intro y0 y1 y2 y3 y4 y5 y6 y7 y8 y9 y10 y11 y12 y13
      unfold ident_Client.j0
      repeat' first
      | (with_reducible exact ih0 _ _ _ _ _ _ _ _ _ _ _ _ _ _)
      | (with_reducible exact be_Bytes.mono _ _ _)
      | (with_reducible exact opts_Find.mono _ _ _)
      | (with_reducible exact LeO.refl _)
      | (with_reducible exact LeO.none _)
      | (with_reducible refine LeO.ite ?_ ?_)
      | (with_reducible refine LeO.bind ?_ (fun _ => ?_))
      | exact ih0 _ _ _ _ _ _ _ _ _ _ _ _ _ _
      | exact be_Bytes.mono _ _ _
      | exact opts_Find.mono _ _ _
      | exact LeO.none _
      | refine LeO.ite ?_ ?_
      | refine LeO.bind ?_ (fun _ => ?_)
theorem ident_Client.mono : ∀ a0 a1 a2 a3 a4 a5 a6 a7 a8 a9 a10 a11 k, LeO (ident_Client.f k a0 a1 a2 a3 a4 a5 a6 a7 a8 a9 a10 a11) (ident_Client.f (k + 1) a0 a1 a2 a3 a4 a5 a6 a7 a8 a9 a10 a11) := by
  intro a0 a1 a2 a3 a4 a5 a6 a7 a8 a9 a10 a11 k
  have ih0 := ident_Client.mono_l k
  unfold ident_Client.f
  repeat' first
      | (with_reducible exact ih0 _ _ _ _ _ _ _ _ _ _ _ _ _ _)
      | (with_reducible exact be_Bytes.mono _ _ _)
      | (with_reducible exact opts_Find.mono _ _ _)
      | (with_reducible exact LeO.refl _)
      | (with_reducible exact LeO.none _)
      | (with_reducible refine LeO.ite ?_ ?_)
      | (with_reducible refine LeO.bind ?_ (fun _ => ?_))
      | exact ih0 _ _ _ _ _ _ _ _ _ _ _ _ _ _
      | exact be_Bytes.mono _ _ _
      | exact opts_Find.mono _ _ _
      | exact LeO.none _
      | refine LeO.ite ?_ ?_
      | refine LeO.bind ?_ (fun _ => ?_)
set_option maxHeartbeats 8000000 in
set_option maxRecDepth 100000 in
theorem ident_Client.calls (k : Nat) (a0_0 : Int) (a0_1 : Int) (a0_2 : Int) (a0_3 : Int) (a0_4 : Int) (a0_5 : Int) (a0_6 : Int) (a0_7 : Int) (a0_8 : Int) (a0_9 : Int) (a0_10 : ByteArray) (A0_11 : Option Addr) (c0_11 : Nat) (l0_11 : List (S65)) (r1 : ByteArray) (r2 : Int) (w : World) (hr0_11 : Kd.C k65 w A0_11 l0_11.length l0_11) (hc0_11 : l0_11.length ≤ c0_11) (h : ident_Client.f k a0_0 a0_1 a0_2 a0_3 a0_4 a0_5 a0_6 a0_7 a0_8 a0_9 a0_10 l0_11 = some (r1, r2)) :
    Calls Try.prog 30 #[.agg #[.int .i64 a0_0, .int .i64 a0_1, .int .i64 a0_2, .int .i64 a0_3, .int .i64 a0_4, .int .i64 a0_5, .int .i64 a0_6, .int .i64 a0_7, .int .i64 a0_8, .int .i64 a0_9, .string a0_10, .slice A0_11 l0_11.length c0_11]] w fun e w' => e = .returned (.tuple #[.string r1, .int .i64 r2]) ∧ Below w.heap.size w w' := by
  have hu54 := Try.underlying54
  have HR0_11 := Aside0.mk hr0_11
  have HC0_11 := Aside0.mk hc0_11
  clear hr0_11 hc0_11
  have HB := Aside0.mk (Below.refl w.heap.size w)
  have H : ((packet_May.f a0_0 a0_1 a0_2 a0_3 a0_4 a0_5 a0_6 a0_7 a0_8 a0_9 a0_10 l0_11).bind fun t117 => (if t117 = true then ((opts_Find.f k l0_11 61).bind fun bt118 => (if bt118.2 = true then (ident_Client.j0 k bt118.1 false a0_0 a0_1 a0_2 a0_3 a0_4 a0_5 a0_6 a0_7 a0_8 a0_9 a0_10 l0_11) else (ident_Client.j0 k bt118.1 (a0_10.toList != ([] : List UInt8)) a0_0 a0_1 a0_2 a0_3 a0_4 a0_5 a0_6 a0_7 a0_8 a0_9 a0_10 l0_11))) else (some ((⟨#[]⟩ : ByteArray), 900)))) = some (r1, r2) := h
  clear h
  replace H := Option.bind_eq_some_iff.mp H
  obtain ⟨t117, A20, H⟩ := H
  replace H : (if t117 = true then ((opts_Find.f k l0_11 61).bind fun bt118 => (if bt118.2 = true then (ident_Client.j0 k bt118.1 false a0_0 a0_1 a0_2 a0_3 a0_4 a0_5 a0_6 a0_7 a0_8 a0_9 a0_10 l0_11) else (ident_Client.j0 k bt118.1 (a0_10.toList != ([] : List UInt8)) a0_0 a0_1 a0_2 a0_3 a0_4 a0_5 a0_6 a0_7 a0_8 a0_9 a0_10 l0_11))) else (some ((⟨#[]⟩ : ByteArray), 900))) = some (r1, r2) := H
  have A2 := Aside0.mk A20
  clear A20
  by_cases c3 : t117 = true
  · subst c3
    have H1 : ((opts_Find.f k l0_11 61).bind fun bt118 => (if bt118.2 = true then (ident_Client.j0 k bt118.1 false a0_0 a0_1 a0_2 a0_3 a0_4 a0_5 a0_6 a0_7 a0_8 a0_9 a0_10 l0_11) else (ident_Client.j0 k bt118.1 (a0_10.toList != ([] : List UInt8)) a0_0 a0_1 a0_2 a0_3 a0_4 a0_5 a0_6 a0_7 a0_8 a0_9 a0_10 l0_11))) = some (r1, r2) := by rw [if_pos rfl] at H; exact H
    clear H
    have H := H1
    clear H1
    replace H := Option.bind_eq_some_iff.mp H
    obtain ⟨⟨t118, t119⟩, A40, H⟩ := H
    replace H : (if t119 = true then (ident_Client.j0 k t118 false a0_0 a0_1 a0_2 a0_3 a0_4 a0_5 a0_6 a0_7 a0_8 a0_9 a0_10 l0_11) else (ident_Client.j0 k t118 (a0_10.toList != ([] : List UInt8)) a0_0 a0_1 a0_2 a0_3 a0_4 a0_5 a0_6 a0_7 a0_8 a0_9 a0_10 l0_11)) = some (r1, r2) := H
    have A4 := Aside0.mk A40
    clear A40
    have HC5 := Aside0.mk H
    clear H
    go_enter Try.func30, Try.ntmps30
    go_upto_region 4 with (first | ((with_reducible refine gate_dst (N := 1) rfl ?_); refine box_event ?hg (N := 1) ?hd (cs := #[.int .i64 a0_0, .int .i64 a0_1, .int .i64 a0_2, .int .i64 a0_3, .int .i64 a0_4, .int .i64 a0_5, .int .i64 a0_6, .int .i64 a0_7, .int .i64 a0_8, .int .i64 a0_9, .string a0_10, .slice A0_11 l0_11.length c0_11]) (t := 54) ?hr ?_; (case hd => rfl); (case hg => rfl); (case hr => first | (go_simp; done) | (go_simp; rfl)); intro gb116 hg w6 hbox hb; have n0_ := Aside0.mk (below_step (by repeat (with_reducible first | exact HB.out | apply below_alloc | apply pw_below_drewN | apply below_drew1)) hb); have n1_ := Aside0.mk (hbox); have n2_ := Aside0.mk ((by rw [hg]; exact (below_size (by repeat (with_reducible first | exact HB.out | apply below_alloc | apply pw_below_drewN | apply below_drew1))) : w.heap.size ≤ gb116)); have n3_ := Aside0.mk ((by rw [hg]; exact (below_size (by repeat (with_reducible first | exact HB.out | apply below_alloc | apply pw_below_drewN | apply below_drew1))) : w.heap.size ≤ gb116)); clear HB; have HB := n0_; have BK116 := n1_; have GW116 := n2_; have GE116 := n3_; clear n0_ n1_ n2_ n3_; clear hb hbox hg; have hcz7_0 : w6.cell? ⟨gb116, 0, none⟩ = some (.int .i64 a0_0) := (blk_cell BK116.out 0).trans rfl; have hcz7_1 : w6.cell? ⟨gb116, 1, none⟩ = some (.int .i64 a0_1) := (blk_cell BK116.out 1).trans rfl; have hcz7_2 : w6.cell? ⟨gb116, 2, none⟩ = some (.int .i64 a0_2) := (blk_cell BK116.out 2).trans rfl; have hcz7_3 : w6.cell? ⟨gb116, 3, none⟩ = some (.int .i64 a0_3) := (blk_cell BK116.out 3).trans rfl; have hcz7_4 : w6.cell? ⟨gb116, 4, none⟩ = some (.int .i64 a0_4) := (blk_cell BK116.out 4).trans rfl; have hcz7_5 : w6.cell? ⟨gb116, 5, none⟩ = some (.int .i64 a0_5) := (blk_cell BK116.out 5).trans rfl; have hcz7_6 : w6.cell? ⟨gb116, 6, none⟩ = some (.int .i64 a0_6) := (blk_cell BK116.out 6).trans rfl; have hcz7_7 : w6.cell? ⟨gb116, 7, none⟩ = some (.int .i64 a0_7) := (blk_cell BK116.out 7).trans rfl; have hcz7_8 : w6.cell? ⟨gb116, 8, none⟩ = some (.int .i64 a0_8) := (blk_cell BK116.out 8).trans rfl; have hcz7_9 : w6.cell? ⟨gb116, 9, none⟩ = some (.int .i64 a0_9) := (blk_cell BK116.out 9).trans rfl; have hcz7_10 : w6.cell? ⟨gb116, 10, none⟩ = some (.string a0_10) := (blk_cell BK116.out 10).trans rfl; have hcz7_11 : w6.cell? ⟨gb116, 11, none⟩ = some (.slice A0_11 l0_11.length c0_11) := (blk_cell BK116.out 11).trans rfl; have hfz7_0 := blk_frozen BK116.out 0; have hfz7_1 := blk_frozen BK116.out 1; have hfz7_2 := blk_frozen BK116.out 2; have hfz7_3 := blk_frozen BK116.out 3; have hfz7_4 := blk_frozen BK116.out 4; have hfz7_5 := blk_frozen BK116.out 5; have hfz7_6 := blk_frozen BK116.out 6; have hfz7_7 := blk_frozen BK116.out 7; have hfz7_8 := blk_frozen BK116.out 8; have hfz7_9 := blk_frozen BK116.out 9; have hfz7_10 := blk_frozen BK116.out 10; have hfz7_11 := blk_frozen BK116.out 11) | ((with_reducible refine gate_callee (f := 51) rfl ?_); refine goesL_ (some 7) rfl rfl Try.func51 (by kernel_rfl) rfl #[.agg #[.int .i64 a0_0, .int .i64 a0_1, .int .i64 a0_2, .int .i64 a0_3, .int .i64 a0_4, .int .i64 a0_5, .int .i64 a0_6, .int .i64 a0_7, .int .i64 a0_8, .int .i64 a0_9, .string a0_10, .slice A0_11 l0_11.length c0_11]] rfl (by (try simp only [List.map_toArray, List.map_cons, List.map_nil]); first | done | rfl | (simp only [List.length_drop, List.length_take]; rfl)) ?_; (with_reducible refine (packet_May.calls a0_0 a0_1 a0_2 a0_3 a0_4 a0_5 a0_6 a0_7 a0_8 a0_9 a0_10 _ _ l0_11 true _ ?side1 ?side2 A2.out).mono ?_); (case side1 => repeat (first | exact (Kd.C_below HR0_11.out HB.out) | (with_reducible refine Kd.C_alloc ?_ _) | (with_reducible refine Kd.C_drewN ?_ _) | (with_reducible refine Kd.C_drew ?_))); (case side2 => exact HC0_11.out); rintro e w8 ⟨rfl, hb⟩; refine ⟨_, rfl, ?_⟩; have n0_ := Aside0.mk (blk_below (g := gb116) (o := .cells #[.int .i64 a0_0, .int .i64 a0_1, .int .i64 a0_2, .int .i64 a0_3, .int .i64 a0_4, .int .i64 a0_5, .int .i64 a0_6, .int .i64 a0_7, .int .i64 a0_8, .int .i64 a0_9, .string a0_10, .slice A0_11 l0_11.length c0_11] 54 (0, 0)) (by (with_reducible repeat (first | refine blk_drewN ?_ _ | refine blk_drew ?_ | refine blk_alloc ?_ _)); exact BK116.out) hb); have n1_ := Aside0.mk (below_step (by repeat (with_reducible first | exact HB.out | apply below_alloc | apply pw_below_drewN | apply below_drew1 | refine below_set ?_ GE116.out)) hb); clear BK116; clear HB; have BK116 := n0_; have HB := n1_; clear n0_ n1_; (try clear hb); have hcz9_0 : w8.cell? ⟨gb116, 0, none⟩ = some (.int .i64 a0_0) := (blk_cell BK116.out 0).trans rfl; have hcz9_1 : w8.cell? ⟨gb116, 1, none⟩ = some (.int .i64 a0_1) := (blk_cell BK116.out 1).trans rfl; have hcz9_2 : w8.cell? ⟨gb116, 2, none⟩ = some (.int .i64 a0_2) := (blk_cell BK116.out 2).trans rfl; have hcz9_3 : w8.cell? ⟨gb116, 3, none⟩ = some (.int .i64 a0_3) := (blk_cell BK116.out 3).trans rfl; have hcz9_4 : w8.cell? ⟨gb116, 4, none⟩ = some (.int .i64 a0_4) := (blk_cell BK116.out 4).trans rfl; have hcz9_5 : w8.cell? ⟨gb116, 5, none⟩ = some (.int .i64 a0_5) := (blk_cell BK116.out 5).trans rfl; have hcz9_6 : w8.cell? ⟨gb116, 6, none⟩ = some (.int .i64 a0_6) := (blk_cell BK116.out 6).trans rfl; have hcz9_7 : w8.cell? ⟨gb116, 7, none⟩ = some (.int .i64 a0_7) := (blk_cell BK116.out 7).trans rfl; have hcz9_8 : w8.cell? ⟨gb116, 8, none⟩ = some (.int .i64 a0_8) := (blk_cell BK116.out 8).trans rfl; have hcz9_9 : w8.cell? ⟨gb116, 9, none⟩ = some (.int .i64 a0_9) := (blk_cell BK116.out 9).trans rfl; have hcz9_10 : w8.cell? ⟨gb116, 10, none⟩ = some (.string a0_10) := (blk_cell BK116.out 10).trans rfl; have hcz9_11 : w8.cell? ⟨gb116, 11, none⟩ = some (.slice A0_11 l0_11.length c0_11) := (blk_cell BK116.out 11).trans rfl; have hfz9_0 := blk_frozen BK116.out 0; have hfz9_1 := blk_frozen BK116.out 1; have hfz9_2 := blk_frozen BK116.out 2; have hfz9_3 := blk_frozen BK116.out 3; have hfz9_4 := blk_frozen BK116.out 4; have hfz9_5 := blk_frozen BK116.out 5; have hfz9_6 := blk_frozen BK116.out 6; have hfz9_7 := blk_frozen BK116.out 7; have hfz9_8 := blk_frozen BK116.out 8; have hfz9_9 := blk_frozen BK116.out 9; have hfz9_10 := blk_frozen BK116.out 10; have hfz9_11 := blk_frozen BK116.out 11) | ((with_reducible refine gate_callee (f := 52) rfl ?_); refine goesL_ (some 12) rfl rfl Try.func52 (by kernel_rfl) rfl #[.slice A0_11 l0_11.length c0_11, .int .i64 61] rfl (by (try simp only [List.map_toArray, List.map_cons, List.map_nil]); first | done | rfl | (simp only [List.length_drop, List.length_take]; rfl)) ?_; (with_reducible refine (opts_Find.calls k _ _ l0_11 61 t118 t119 _ ?side1 ?side2 A4.out).mono ?_); (case side1 => repeat (first | exact (Kd.C_below HR0_11.out HB.out) | (with_reducible refine Kd.C_alloc ?_ _) | (with_reducible refine Kd.C_drewN ?_ _) | (with_reducible refine Kd.C_drew ?_))); (case side2 => exact HC0_11.out); rintro e w10 ⟨rfl, hb⟩; refine ⟨_, rfl, ?_⟩; have n0_ := Aside0.mk (blk_below (g := gb116) (o := .cells #[.int .i64 a0_0, .int .i64 a0_1, .int .i64 a0_2, .int .i64 a0_3, .int .i64 a0_4, .int .i64 a0_5, .int .i64 a0_6, .int .i64 a0_7, .int .i64 a0_8, .int .i64 a0_9, .string a0_10, .slice A0_11 l0_11.length c0_11] 54 (0, 0)) (by (with_reducible repeat (first | refine blk_drewN ?_ _ | refine blk_drew ?_ | refine blk_alloc ?_ _)); exact BK116.out) hb); have n1_ := Aside0.mk (below_step (by repeat (with_reducible first | exact HB.out | apply below_alloc | apply pw_below_drewN | apply below_drew1 | refine below_set ?_ GE116.out)) hb); clear BK116; clear HB; have BK116 := n0_; have HB := n1_; clear n0_ n1_; (try clear hb)))
    (try simp only [Act.put, List.setIfInBounds_toArray, List.set_cons_zero, List.set_cons_succ])
    go_cut [21] (fun v21 wc => ∃ (kq : Nat) (x21_4 : Bool), v21 = .bool x21_4 ∧ Aside0 (ident_Client.j0 kq t118 x21_4 a0_0 a0_1 a0_2 a0_3 a0_4 a0_5 a0_6 a0_7 a0_8 a0_9 a0_10 l0_11 = some (r1, r2)) ∧ Aside0 (kq ≤ k) ∧ Aside0 (wc.heap[gb116]? = some (.cells #[.int .i64 a0_0, .int .i64 a0_1, .int .i64 a0_2, .int .i64 a0_3, .int .i64 a0_4, .int .i64 a0_5, .int .i64 a0_6, .int .i64 a0_7, .int .i64 a0_8, .int .i64 a0_9, .string a0_10, (.slice A0_11 l0_11.length c0_11)] 54 (0, 0))) ∧ Aside0 (Below w.heap.size w wc))
    case first =>
      have H := HC5.out
      clear HC5
      by_cases c11 : t119 = true
      · subst c11
        have H1 : (ident_Client.j0 k t118 false a0_0 a0_1 a0_2 a0_3 a0_4 a0_5 a0_6 a0_7 a0_8 a0_9 a0_10 l0_11) = some (r1, r2) := by rw [if_pos rfl] at H; exact H
        clear H
        have H := H1
        clear H1
        have H' := Aside0.mk H
        clear H
        go_wp2
        go_meet
        case rel => exact ⟨_, (false), (by first | rfl | (simp; done) | (simp [*]; done) | (simp only [str_ne_]; rfl) | (simp only [str_eq_]; rfl)), H', ⟨by first | omega | exact Nat.le_refl _⟩, ⟨by (with_reducible repeat (first | refine blk_drewN ?_ _ | refine blk_drew ?_ | refine blk_alloc ?_ _)); exact BK116.out⟩, ⟨by repeat (with_reducible first | exact HB.out | apply below_alloc | apply pw_below_drewN | apply below_drew1 | refine below_set ?_ GE116.out)⟩⟩
      replace c11 := Bool.eq_false_iff.mpr c11
      subst c11
      have H1 : (ident_Client.j0 k t118 (a0_10.toList != ([] : List UInt8)) a0_0 a0_1 a0_2 a0_3 a0_4 a0_5 a0_6 a0_7 a0_8 a0_9 a0_10 l0_11) = some (r1, r2) := by rw [if_neg (show ¬ (false = true) by decide)] at H; exact H
      clear H
      have H := H1
      clear H1
      have H' := Aside0.mk H
      clear H
      have hcz12_0 : w10.cell? ⟨gb116, 0, none⟩ = some (.int .i64 a0_0) := (blk_cell BK116.out 0).trans rfl; have hcz12_1 : w10.cell? ⟨gb116, 1, none⟩ = some (.int .i64 a0_1) := (blk_cell BK116.out 1).trans rfl; have hcz12_2 : w10.cell? ⟨gb116, 2, none⟩ = some (.int .i64 a0_2) := (blk_cell BK116.out 2).trans rfl; have hcz12_3 : w10.cell? ⟨gb116, 3, none⟩ = some (.int .i64 a0_3) := (blk_cell BK116.out 3).trans rfl; have hcz12_4 : w10.cell? ⟨gb116, 4, none⟩ = some (.int .i64 a0_4) := (blk_cell BK116.out 4).trans rfl; have hcz12_5 : w10.cell? ⟨gb116, 5, none⟩ = some (.int .i64 a0_5) := (blk_cell BK116.out 5).trans rfl; have hcz12_6 : w10.cell? ⟨gb116, 6, none⟩ = some (.int .i64 a0_6) := (blk_cell BK116.out 6).trans rfl; have hcz12_7 : w10.cell? ⟨gb116, 7, none⟩ = some (.int .i64 a0_7) := (blk_cell BK116.out 7).trans rfl; have hcz12_8 : w10.cell? ⟨gb116, 8, none⟩ = some (.int .i64 a0_8) := (blk_cell BK116.out 8).trans rfl; have hcz12_9 : w10.cell? ⟨gb116, 9, none⟩ = some (.int .i64 a0_9) := (blk_cell BK116.out 9).trans rfl; have hcz12_10 : w10.cell? ⟨gb116, 10, none⟩ = some (.string a0_10) := (blk_cell BK116.out 10).trans rfl; have hcz12_11 : w10.cell? ⟨gb116, 11, none⟩ = some (.slice A0_11 l0_11.length c0_11) := (blk_cell BK116.out 11).trans rfl; have hfz12_0 := blk_frozen BK116.out 0; have hfz12_1 := blk_frozen BK116.out 1; have hfz12_2 := blk_frozen BK116.out 2; have hfz12_3 := blk_frozen BK116.out 3; have hfz12_4 := blk_frozen BK116.out 4; have hfz12_5 := blk_frozen BK116.out 5; have hfz12_6 := blk_frozen BK116.out 6; have hfz12_7 := blk_frozen BK116.out 7; have hfz12_8 := blk_frozen BK116.out 8; have hfz12_9 := blk_frozen BK116.out 9; have hfz12_10 := blk_frozen BK116.out 10; have hfz12_11 := blk_frozen BK116.out 11
      go_wp2
      go_meet
      case rel => exact ⟨_, ((a0_10.toList != ([] : List UInt8))), (by first | rfl | (simp; done) | (simp [*]; done) | (simp only [str_ne_]; rfl) | (simp only [str_eq_]; rfl)), H', ⟨by first | omega | exact Nat.le_refl _⟩, ⟨by (with_reducible repeat (first | refine blk_drewN ?_ _ | refine blk_drew ?_ | refine blk_alloc ?_ _)); exact BK116.out⟩, ⟨by repeat (with_reducible first | exact HB.out | apply below_alloc | apply pw_below_drewN | apply below_drew1 | refine below_set ?_ GE116.out)⟩⟩
    case rest =>
      clear HC5
      (try clear c3); (try clear hcz7_0); (try clear hcz7_1); (try clear hcz7_10); (try clear hcz7_11); (try clear hcz7_2); (try clear hcz7_3); (try clear hcz7_4); (try clear hcz7_5); (try clear hcz7_6); (try clear hcz7_7); (try clear hcz7_8); (try clear hcz7_9); (try clear hcz9_0); (try clear hcz9_1); (try clear hcz9_10); (try clear hcz9_11); (try clear hcz9_2); (try clear hcz9_3); (try clear hcz9_4); (try clear hcz9_5); (try clear hcz9_6); (try clear hcz9_7); (try clear hcz9_8); (try clear hcz9_9); (try clear hfz7_0); (try clear hfz7_1); (try clear hfz7_10); (try clear hfz7_11); (try clear hfz7_2); (try clear hfz7_3); (try clear hfz7_4); (try clear hfz7_5); (try clear hfz7_6); (try clear hfz7_7); (try clear hfz7_8); (try clear hfz7_9); (try clear hfz9_0); (try clear hfz9_1); (try clear hfz9_10); (try clear hfz9_11); (try clear hfz9_2); (try clear hfz9_3); (try clear hfz9_4); (try clear hfz9_5); (try clear hfz9_6); (try clear hfz9_7); (try clear hfz9_8); (try clear hfz9_9)
      obtain ⟨kq, x21_4, rfl, HA, HJ4, BK116, HB⟩ := hcut
      cases kq with
      | zero => exact absurd HA.out (by simp [ident_Client.j0])
      | succ kj4 =>
        have H := HA.out
        clear HA
        simp only [ident_Client.j0] at H
        by_cases c13 : x21_4 = true
        · subst c13
          have H1 : ((be_Bytes.f kj4 a0_1 1).bind fun t120 => (if t120.size + a0_10.size ≤ 9223372036854775807 then ((ident_May.f (t120 ++ a0_10)).bind fun t121 => (if t121 = true then (some (t120 ++ a0_10, 0)) else (some ((⟨#[]⟩ : ByteArray), 900)))) else (none))) = some (r1, r2) := by rw [if_pos rfl] at H; exact H
          clear H
          have H := H1
          clear H1
          replace H := Option.bind_eq_some_iff.mp H
          obtain ⟨t120, A140, H⟩ := H
          replace H : (if t120.size + a0_10.size ≤ 9223372036854775807 then ((ident_May.f (t120 ++ a0_10)).bind fun t121 => (if t121 = true then (some (t120 ++ a0_10, 0)) else (some ((⟨#[]⟩ : ByteArray), 900)))) else (none)) = some (r1, r2) := H
          have A14 := Aside0.mk A140
          clear A140
          by_cases c15 : t120.size + a0_10.size ≤ 9223372036854775807
          rotate_left
          · rw [if_neg c15] at H
            exact absurd H (by simp)
          rw [if_pos c15] at H
          have c15b0 := eq_true c15
          have c15b1 : decide (t120.size + a0_10.size ≤ 9223372036854775807) = true := decide_eq_true c15
          try have c15b2 : (9223372036854775807 < t120.size + a0_10.size) = False := eq_false (Nat.not_lt.2 c15)
          replace H := Option.bind_eq_some_iff.mp H
          obtain ⟨t121, A160, H⟩ := H
          replace H : (if t121 = true then (some (t120 ++ a0_10, 0)) else (some ((⟨#[]⟩ : ByteArray), 900))) = some (r1, r2) := H
          have A16 := Aside0.mk A160
          clear A160
          by_cases c17 : t121 = true
          · subst c17
            have H1 : (some (t120 ++ a0_10, 0)) = some (r1, r2) := by rw [if_pos rfl] at H; exact H
            clear H
            have H := H1
            clear H1
            simp only [Option.some.injEq, Prod.mk.injEq] at H
            obtain ⟨rfl, rfl⟩ := H
            try go_wp2
            have n0_ := Aside0.mk (blk_drew BK116.out)
            have n1_ := Aside0.mk (below_drew1 HB.out)
            clear BK116
            clear HB
            have BK116 := n0_
            have HB := n1_
            clear n0_ n1_
            refine start_ (n := 7) (S := fun w' => w'.cell? ⟨gb116, 0, none⟩ = some (.int .i64 a0_0) ∧ w'.cell? ⟨gb116, 1, none⟩ = some (.int .i64 a0_1) ∧ w'.cell? ⟨gb116, 2, none⟩ = some (.int .i64 a0_2) ∧ w'.cell? ⟨gb116, 3, none⟩ = some (.int .i64 a0_3) ∧ w'.cell? ⟨gb116, 4, none⟩ = some (.int .i64 a0_4) ∧ w'.cell? ⟨gb116, 5, none⟩ = some (.int .i64 a0_5) ∧ w'.cell? ⟨gb116, 6, none⟩ = some (.int .i64 a0_6) ∧ w'.cell? ⟨gb116, 7, none⟩ = some (.int .i64 a0_7) ∧ w'.cell? ⟨gb116, 8, none⟩ = some (.int .i64 a0_8) ∧ w'.cell? ⟨gb116, 9, none⟩ = some (.int .i64 a0_9) ∧ w'.cell? ⟨gb116, 10, none⟩ = some (.string a0_10) ∧ w'.cell? ⟨gb116, 11, none⟩ = some (.slice A0_11 l0_11.length c0_11)) (ds := []) #[false, false, false, false, false, false, false] (by kernel_rfl) rfl rfl ⟨(blk_cell BK116.out 0).trans rfl, (blk_cell BK116.out 1).trans rfl, (blk_cell BK116.out 2).trans rfl, (blk_cell BK116.out 3).trans rfl, (blk_cell BK116.out 4).trans rfl, (blk_cell BK116.out 5).trans rfl, (blk_cell BK116.out 6).trans rfl, (blk_cell BK116.out 7).trans rfl, (blk_cell BK116.out 8).trans rfl, (blk_cell BK116.out 9).trans rfl, (blk_cell BK116.out 10).trans rfl, (blk_cell BK116.out 11).trans rfl⟩ (fun hHeld => ?_)
            generalize wc.drew = w18 at BK116 HB hHeld ⊢
            refine pure_ (i := 0) (N := some 22) (v := ?_) (a' := ?_) #[true, false, false, false, false, false, false] rfl rfl (by kernel_rfl) (fun _ _ _ h => h) (Or.inl ⟨by rfl, ?_⟩) ?_ ?_
            rotate_left
            · intro w'
              go_simp
              with_reducible rfl
            rotate_left
            · simp only [Act.put, List.setIfInBounds_toArray, List.set_cons_zero, List.set_cons_succ, i64_w, i32_w]
              rfl
            refine pure_ (i := 3) (N := some 25) (v := ?_) (a' := ?_) #[true, false, false, true, false, false, false] rfl rfl (by kernel_rfl) (fun _ _ _ h => h) (Or.inl ⟨by rfl, ?_⟩) ?_ ?_
            rotate_left
            · intro w'
              go_simp
              with_reducible rfl
            rotate_left
            · simp only [Act.put, List.setIfInBounds_toArray, List.set_cons_zero, List.set_cons_succ, i64_w, i32_w]
              rfl
            refine take_ (i := 1) (N := some 23) (v := ?_) (a' := ?_) #[true, true, false, true, false, false, false] rfl rfl (by kernel_rfl) (fun _ _ _ h => h) (Or.inl ⟨by rfl, ?_⟩) hHeld ?_ ?_
            rotate_left
            · rintro w' ⟨s0, s1, s2, s3, s4, s5, s6, s7, s8, s9, s10, s11⟩
              go_simp
              with_reducible rfl
            rotate_left
            · simp only [Act.put, List.setIfInBounds_toArray, List.set_cons_zero, List.set_cons_succ, i64_w, i32_w]
              rfl
            refine take_ (i := 4) (N := some 26) (v := ?_) (a' := ?_) #[true, true, false, true, true, false, false] rfl rfl (by kernel_rfl) (fun _ _ _ h => h) (Or.inl ⟨by rfl, ?_⟩) hHeld ?_ ?_
            rotate_left
            · rintro w' ⟨s0, s1, s2, s3, s4, s5, s6, s7, s8, s9, s10, s11⟩
              go_simp
              with_reducible rfl
            rotate_left
            · simp only [Act.put, List.setIfInBounds_toArray, List.set_cons_zero, List.set_cons_succ, i64_w, i32_w]
              rfl
            refine one_ (i := 2) (N := some 24) #[true, true, true, true, true, false, false] rfl rfl (by kernel_rfl) (by decide) (fun K hK => ?_)
            refine goes_ Try.func53 (by kernel_rfl) rfl #[.int .i64 a0_1, .int .i64 1] (by rfl) rfl rfl (by (try simp only [List.map_toArray, List.map_cons, List.map_nil]); first | done | rfl | (simp only [List.length_drop, List.length_take]; rfl)) ?_
            with_reducible refine (be_Bytes.calls kj4 a0_1 1 t120 _ A14.out).mono ?_
            rintro e w19 ⟨rfl, hb⟩
            refine ⟨_, rfl, ?_⟩
            have n0_ := Aside0.mk (blk_below (g := gb116) (o := .cells #[.int .i64 a0_0, .int .i64 a0_1, .int .i64 a0_2, .int .i64 a0_3, .int .i64 a0_4, .int .i64 a0_5, .int .i64 a0_6, .int .i64 a0_7, .int .i64 a0_8, .int .i64 a0_9, .string a0_10, .slice A0_11 l0_11.length c0_11] 54 (0, 0)) (by (with_reducible repeat (first | refine blk_drewN ?_ _ | refine blk_drew ?_ | refine blk_alloc ?_ _)); exact BK116.out) hb)
            have n1_ := Aside0.mk (below_step (by repeat (with_reducible first | exact HB.out | apply below_alloc | apply pw_below_drewN | apply below_drew1 | refine below_set ?_ GE116.out)) hb)
            clear BK116
            clear HB
            have BK116 := n0_
            have HB := n1_
            clear n0_ n1_
            (try clear hb)
            (try clear hb2)
            (try clear hk)
            (try clear hi)
            refine hK.out _ _ ⟨(blk_cell BK116.out 0).trans rfl, (blk_cell BK116.out 1).trans rfl, (blk_cell BK116.out 2).trans rfl, (blk_cell BK116.out 3).trans rfl, (blk_cell BK116.out 4).trans rfl, (blk_cell BK116.out 5).trans rfl, (blk_cell BK116.out 6).trans rfl, (blk_cell BK116.out 7).trans rfl, (blk_cell BK116.out 8).trans rfl, (blk_cell BK116.out 9).trans rfl, (blk_cell BK116.out 10).trans rfl, (blk_cell BK116.out 11).trans rfl⟩ (fun hHeld => ?_)
            clear hK K
            refine norm_ (a' := ?_) ?_ ?_
            rotate_left
            · show Act.put _ (some 24) _ = _
              simp only [Act.put, List.setIfInBounds_toArray, List.set_cons_zero, List.set_cons_succ, i64_w, i32_w]
              rfl
            refine pure_ (i := 5) (N := some 27) (v := ?_) (a' := ?_) #[true, true, true, true, true, true, false] rfl rfl (by kernel_rfl) (fun _ _ _ h => h) (Or.inl ⟨by rfl, ?_⟩) ?_ ?_
            rotate_left
            · intro w'
              go_simp
              with_reducible rfl
            rotate_left
            · simp only [Act.put, List.setIfInBounds_toArray, List.set_cons_zero, List.set_cons_succ, i64_w, i32_w]
              rfl
            refine pure_ (i := 6) (N := some 4) (v := ?_) (a' := ?_) #[true, true, true, true, true, true, true] rfl rfl (by kernel_rfl) (fun _ _ _ h => h) (Or.inl ⟨by rfl, ?_⟩) ?_ ?_
            rotate_left
            · intro w'
              go_simp
              with_reducible rfl
            rotate_left
            · simp only [Act.put, List.setIfInBounds_toArray, List.set_cons_zero, List.set_cons_succ, i64_w, i32_w]
              rfl
            refine done_ (by kernel_rfl) ?_
            try go_wp2_with (first | ((with_reducible refine gate_callee (f := 54) rfl ?_); refine goesL_ (some 29) rfl rfl Try.func54 (by kernel_rfl) rfl #[.string (t120 ++ a0_10)] rfl (by (try simp only [List.map_toArray, List.map_cons, List.map_nil]); first | done | rfl | (simp only [List.length_drop, List.length_take]; rfl)) ?_; (with_reducible refine (ident_May.calls (t120 ++ a0_10) true _ A16.out).mono ?_); rintro e w' ⟨rfl, ⟨nd, rfl⟩⟩; refine ⟨_, rfl, ?_⟩))
            go_ret2
            exact ⟨by first | rfl | (simp [errW_none, errW_some] <;> rfl) | (simp [*, errW_none, errW_some] <;> rfl) | (simp only [str_ne_]; rfl) | (simp only [str_eq_]; rfl), by repeat (with_reducible first | exact HB.out | apply below_alloc | apply pw_below_drewN | apply below_drew1 | refine below_set ?_ GE116.out)⟩
          replace c17 := Bool.eq_false_iff.mpr c17
          subst c17
          have H1 : (some ((⟨#[]⟩ : ByteArray), 900)) = some (r1, r2) := by rw [if_neg (show ¬ (false = true) by decide)] at H; exact H
          clear H
          have H := H1
          clear H1
          simp only [Option.some.injEq, Prod.mk.injEq] at H
          obtain ⟨rfl, rfl⟩ := H
          try go_wp2
          have n0_ := Aside0.mk (blk_drew BK116.out)
          have n1_ := Aside0.mk (below_drew1 HB.out)
          clear BK116
          clear HB
          have BK116 := n0_
          have HB := n1_
          clear n0_ n1_
          refine start_ (n := 7) (S := fun w' => w'.cell? ⟨gb116, 0, none⟩ = some (.int .i64 a0_0) ∧ w'.cell? ⟨gb116, 1, none⟩ = some (.int .i64 a0_1) ∧ w'.cell? ⟨gb116, 2, none⟩ = some (.int .i64 a0_2) ∧ w'.cell? ⟨gb116, 3, none⟩ = some (.int .i64 a0_3) ∧ w'.cell? ⟨gb116, 4, none⟩ = some (.int .i64 a0_4) ∧ w'.cell? ⟨gb116, 5, none⟩ = some (.int .i64 a0_5) ∧ w'.cell? ⟨gb116, 6, none⟩ = some (.int .i64 a0_6) ∧ w'.cell? ⟨gb116, 7, none⟩ = some (.int .i64 a0_7) ∧ w'.cell? ⟨gb116, 8, none⟩ = some (.int .i64 a0_8) ∧ w'.cell? ⟨gb116, 9, none⟩ = some (.int .i64 a0_9) ∧ w'.cell? ⟨gb116, 10, none⟩ = some (.string a0_10) ∧ w'.cell? ⟨gb116, 11, none⟩ = some (.slice A0_11 l0_11.length c0_11)) (ds := []) #[false, false, false, false, false, false, false] (by kernel_rfl) rfl rfl ⟨(blk_cell BK116.out 0).trans rfl, (blk_cell BK116.out 1).trans rfl, (blk_cell BK116.out 2).trans rfl, (blk_cell BK116.out 3).trans rfl, (blk_cell BK116.out 4).trans rfl, (blk_cell BK116.out 5).trans rfl, (blk_cell BK116.out 6).trans rfl, (blk_cell BK116.out 7).trans rfl, (blk_cell BK116.out 8).trans rfl, (blk_cell BK116.out 9).trans rfl, (blk_cell BK116.out 10).trans rfl, (blk_cell BK116.out 11).trans rfl⟩ (fun hHeld => ?_)
          generalize wc.drew = w20 at BK116 HB hHeld ⊢
          refine pure_ (i := 0) (N := some 22) (v := ?_) (a' := ?_) #[true, false, false, false, false, false, false] rfl rfl (by kernel_rfl) (fun _ _ _ h => h) (Or.inl ⟨by rfl, ?_⟩) ?_ ?_
          rotate_left
          · intro w'
            go_simp
            with_reducible rfl
          rotate_left
          · simp only [Act.put, List.setIfInBounds_toArray, List.set_cons_zero, List.set_cons_succ, i64_w, i32_w]
            rfl
          refine pure_ (i := 3) (N := some 25) (v := ?_) (a' := ?_) #[true, false, false, true, false, false, false] rfl rfl (by kernel_rfl) (fun _ _ _ h => h) (Or.inl ⟨by rfl, ?_⟩) ?_ ?_
          rotate_left
          · intro w'
            go_simp
            with_reducible rfl
          rotate_left
          · simp only [Act.put, List.setIfInBounds_toArray, List.set_cons_zero, List.set_cons_succ, i64_w, i32_w]
            rfl
          refine take_ (i := 1) (N := some 23) (v := ?_) (a' := ?_) #[true, true, false, true, false, false, false] rfl rfl (by kernel_rfl) (fun _ _ _ h => h) (Or.inl ⟨by rfl, ?_⟩) hHeld ?_ ?_
          rotate_left
          · rintro w' ⟨s0, s1, s2, s3, s4, s5, s6, s7, s8, s9, s10, s11⟩
            go_simp
            with_reducible rfl
          rotate_left
          · simp only [Act.put, List.setIfInBounds_toArray, List.set_cons_zero, List.set_cons_succ, i64_w, i32_w]
            rfl
          refine take_ (i := 4) (N := some 26) (v := ?_) (a' := ?_) #[true, true, false, true, true, false, false] rfl rfl (by kernel_rfl) (fun _ _ _ h => h) (Or.inl ⟨by rfl, ?_⟩) hHeld ?_ ?_
          rotate_left
          · rintro w' ⟨s0, s1, s2, s3, s4, s5, s6, s7, s8, s9, s10, s11⟩
            go_simp
            with_reducible rfl
          rotate_left
          · simp only [Act.put, List.setIfInBounds_toArray, List.set_cons_zero, List.set_cons_succ, i64_w, i32_w]
            rfl
          refine one_ (i := 2) (N := some 24) #[true, true, true, true, true, false, false] rfl rfl (by kernel_rfl) (by decide) (fun K hK => ?_)
          refine goes_ Try.func53 (by kernel_rfl) rfl #[.int .i64 a0_1, .int .i64 1] (by rfl) rfl rfl (by (try simp only [List.map_toArray, List.map_cons, List.map_nil]); first | done | rfl | (simp only [List.length_drop, List.length_take]; rfl)) ?_
          with_reducible refine (be_Bytes.calls kj4 a0_1 1 t120 _ A14.out).mono ?_
          rintro e w21 ⟨rfl, hb⟩
          refine ⟨_, rfl, ?_⟩
          have n0_ := Aside0.mk (blk_below (g := gb116) (o := .cells #[.int .i64 a0_0, .int .i64 a0_1, .int .i64 a0_2, .int .i64 a0_3, .int .i64 a0_4, .int .i64 a0_5, .int .i64 a0_6, .int .i64 a0_7, .int .i64 a0_8, .int .i64 a0_9, .string a0_10, .slice A0_11 l0_11.length c0_11] 54 (0, 0)) (by (with_reducible repeat (first | refine blk_drewN ?_ _ | refine blk_drew ?_ | refine blk_alloc ?_ _)); exact BK116.out) hb)
          have n1_ := Aside0.mk (below_step (by repeat (with_reducible first | exact HB.out | apply below_alloc | apply pw_below_drewN | apply below_drew1 | refine below_set ?_ GE116.out)) hb)
          clear BK116
          clear HB
          have BK116 := n0_
          have HB := n1_
          clear n0_ n1_
          (try clear hb)
          (try clear hb2)
          (try clear hk)
          (try clear hi)
          refine hK.out _ _ ⟨(blk_cell BK116.out 0).trans rfl, (blk_cell BK116.out 1).trans rfl, (blk_cell BK116.out 2).trans rfl, (blk_cell BK116.out 3).trans rfl, (blk_cell BK116.out 4).trans rfl, (blk_cell BK116.out 5).trans rfl, (blk_cell BK116.out 6).trans rfl, (blk_cell BK116.out 7).trans rfl, (blk_cell BK116.out 8).trans rfl, (blk_cell BK116.out 9).trans rfl, (blk_cell BK116.out 10).trans rfl, (blk_cell BK116.out 11).trans rfl⟩ (fun hHeld => ?_)
          clear hK K
          refine norm_ (a' := ?_) ?_ ?_
          rotate_left
          · show Act.put _ (some 24) _ = _
            simp only [Act.put, List.setIfInBounds_toArray, List.set_cons_zero, List.set_cons_succ, i64_w, i32_w]
            rfl
          refine pure_ (i := 5) (N := some 27) (v := ?_) (a' := ?_) #[true, true, true, true, true, true, false] rfl rfl (by kernel_rfl) (fun _ _ _ h => h) (Or.inl ⟨by rfl, ?_⟩) ?_ ?_
          rotate_left
          · intro w'
            go_simp
            with_reducible rfl
          rotate_left
          · simp only [Act.put, List.setIfInBounds_toArray, List.set_cons_zero, List.set_cons_succ, i64_w, i32_w]
            rfl
          refine pure_ (i := 6) (N := some 4) (v := ?_) (a' := ?_) #[true, true, true, true, true, true, true] rfl rfl (by kernel_rfl) (fun _ _ _ h => h) (Or.inl ⟨by rfl, ?_⟩) ?_ ?_
          rotate_left
          · intro w'
            go_simp
            with_reducible rfl
          rotate_left
          · simp only [Act.put, List.setIfInBounds_toArray, List.set_cons_zero, List.set_cons_succ, i64_w, i32_w]
            rfl
          refine done_ (by kernel_rfl) ?_
          try go_wp2_with (first | ((with_reducible refine gate_callee (f := 54) rfl ?_); refine goesL_ (some 29) rfl rfl Try.func54 (by kernel_rfl) rfl #[.string (t120 ++ a0_10)] rfl (by (try simp only [List.map_toArray, List.map_cons, List.map_nil]); first | done | rfl | (simp only [List.length_drop, List.length_take]; rfl)) ?_; (with_reducible refine (ident_May.calls (t120 ++ a0_10) false _ A16.out).mono ?_); rintro e w' ⟨rfl, ⟨nd, rfl⟩⟩; refine ⟨_, rfl, ?_⟩))
          go_ret2
          exact ⟨by first | rfl | (simp [errW_none, errW_some] <;> rfl) | (simp [*, errW_none, errW_some] <;> rfl) | (simp only [str_ne_]; rfl) | (simp only [str_eq_]; rfl), by repeat (with_reducible first | exact HB.out | apply below_alloc | apply pw_below_drewN | apply below_drew1 | refine below_set ?_ GE116.out)⟩
        replace c13 := Bool.eq_false_iff.mpr c13
        subst c13
        have H1 : ((ident_May.f t118).bind fun t122 => (if t122 = true then (some (t118, 0)) else (some ((⟨#[]⟩ : ByteArray), 900)))) = some (r1, r2) := by rw [if_neg (show ¬ (false = true) by decide)] at H; exact H
        clear H
        have H := H1
        clear H1
        replace H := Option.bind_eq_some_iff.mp H
        obtain ⟨t122, A220, H⟩ := H
        replace H : (if t122 = true then (some (t118, 0)) else (some ((⟨#[]⟩ : ByteArray), 900))) = some (r1, r2) := H
        have A22 := Aside0.mk A220
        clear A220
        by_cases c23 : t122 = true
        · subst c23
          have H1 : (some (t118, 0)) = some (r1, r2) := by rw [if_pos rfl] at H; exact H
          clear H
          have H := H1
          clear H1
          simp only [Option.some.injEq, Prod.mk.injEq] at H
          obtain ⟨rfl, rfl⟩ := H
          go_wp2_with (first | ((with_reducible refine gate_callee (f := 54) rfl ?_); refine goesL_ (some 29) rfl rfl Try.func54 (by kernel_rfl) rfl #[.string t118] rfl (by (try simp only [List.map_toArray, List.map_cons, List.map_nil]); first | done | rfl | (simp only [List.length_drop, List.length_take]; rfl)) ?_; (with_reducible refine (ident_May.calls t118 true _ A22.out).mono ?_); rintro e w' ⟨rfl, ⟨nd, rfl⟩⟩; refine ⟨_, rfl, ?_⟩))
          go_ret2
          exact ⟨by first | rfl | (simp [errW_none, errW_some] <;> rfl) | (simp [*, errW_none, errW_some] <;> rfl) | (simp only [str_ne_]; rfl) | (simp only [str_eq_]; rfl), by repeat (with_reducible first | exact HB.out | apply below_alloc | apply pw_below_drewN | apply below_drew1 | refine below_set ?_ GE116.out)⟩
        replace c23 := Bool.eq_false_iff.mpr c23
        subst c23
        have H1 : (some ((⟨#[]⟩ : ByteArray), 900)) = some (r1, r2) := by rw [if_neg (show ¬ (false = true) by decide)] at H; exact H
        clear H
        have H := H1
        clear H1
        simp only [Option.some.injEq, Prod.mk.injEq] at H
        obtain ⟨rfl, rfl⟩ := H
        go_wp2_with (first | ((with_reducible refine gate_callee (f := 54) rfl ?_); refine goesL_ (some 29) rfl rfl Try.func54 (by kernel_rfl) rfl #[.string t118] rfl (by (try simp only [List.map_toArray, List.map_cons, List.map_nil]); first | done | rfl | (simp only [List.length_drop, List.length_take]; rfl)) ?_; (with_reducible refine (ident_May.calls t118 false _ A22.out).mono ?_); rintro e w' ⟨rfl, ⟨nd, rfl⟩⟩; refine ⟨_, rfl, ?_⟩))
        go_ret2
        exact ⟨by first | rfl | (simp [errW_none, errW_some] <;> rfl) | (simp [*, errW_none, errW_some] <;> rfl) | (simp only [str_ne_]; rfl) | (simp only [str_eq_]; rfl), by repeat (with_reducible first | exact HB.out | apply below_alloc | apply pw_below_drewN | apply below_drew1 | refine below_set ?_ GE116.out)⟩
  replace c3 := Bool.eq_false_iff.mpr c3
  subst c3
  have H1 : (some ((⟨#[]⟩ : ByteArray), 900)) = some (r1, r2) := by rw [if_neg (show ¬ (false = true) by decide)] at H; exact H
  clear H
  have H := H1
  clear H1
  simp only [Option.some.injEq, Prod.mk.injEq] at H
  obtain ⟨rfl, rfl⟩ := H
  go_enter Try.func30, Try.ntmps30
  go_wp2_with (first | ((with_reducible refine gate_dst (N := 1) rfl ?_); refine box_event ?hg (N := 1) ?hd (cs := #[.int .i64 a0_0, .int .i64 a0_1, .int .i64 a0_2, .int .i64 a0_3, .int .i64 a0_4, .int .i64 a0_5, .int .i64 a0_6, .int .i64 a0_7, .int .i64 a0_8, .int .i64 a0_9, .string a0_10, .slice A0_11 l0_11.length c0_11]) (t := 54) ?hr ?_; (case hd => rfl); (case hg => rfl); (case hr => first | (go_simp; done) | (go_simp; rfl)); intro gb116 hg w24 hbox hb; have n0_ := Aside0.mk (below_step (by repeat (with_reducible first | exact HB.out | apply below_alloc | apply pw_below_drewN | apply below_drew1)) hb); have n1_ := Aside0.mk (hbox); have n2_ := Aside0.mk ((by rw [hg]; exact (below_size (by repeat (with_reducible first | exact HB.out | apply below_alloc | apply pw_below_drewN | apply below_drew1))) : w.heap.size ≤ gb116)); have n3_ := Aside0.mk ((by rw [hg]; exact (below_size (by repeat (with_reducible first | exact HB.out | apply below_alloc | apply pw_below_drewN | apply below_drew1))) : w.heap.size ≤ gb116)); clear HB; have HB := n0_; have BK116 := n1_; have GW116 := n2_; have GE116 := n3_; clear n0_ n1_ n2_ n3_; clear hb hbox hg; have hcz25_0 : w24.cell? ⟨gb116, 0, none⟩ = some (.int .i64 a0_0) := (blk_cell BK116.out 0).trans rfl; have hcz25_1 : w24.cell? ⟨gb116, 1, none⟩ = some (.int .i64 a0_1) := (blk_cell BK116.out 1).trans rfl; have hcz25_2 : w24.cell? ⟨gb116, 2, none⟩ = some (.int .i64 a0_2) := (blk_cell BK116.out 2).trans rfl; have hcz25_3 : w24.cell? ⟨gb116, 3, none⟩ = some (.int .i64 a0_3) := (blk_cell BK116.out 3).trans rfl; have hcz25_4 : w24.cell? ⟨gb116, 4, none⟩ = some (.int .i64 a0_4) := (blk_cell BK116.out 4).trans rfl; have hcz25_5 : w24.cell? ⟨gb116, 5, none⟩ = some (.int .i64 a0_5) := (blk_cell BK116.out 5).trans rfl; have hcz25_6 : w24.cell? ⟨gb116, 6, none⟩ = some (.int .i64 a0_6) := (blk_cell BK116.out 6).trans rfl; have hcz25_7 : w24.cell? ⟨gb116, 7, none⟩ = some (.int .i64 a0_7) := (blk_cell BK116.out 7).trans rfl; have hcz25_8 : w24.cell? ⟨gb116, 8, none⟩ = some (.int .i64 a0_8) := (blk_cell BK116.out 8).trans rfl; have hcz25_9 : w24.cell? ⟨gb116, 9, none⟩ = some (.int .i64 a0_9) := (blk_cell BK116.out 9).trans rfl; have hcz25_10 : w24.cell? ⟨gb116, 10, none⟩ = some (.string a0_10) := (blk_cell BK116.out 10).trans rfl; have hcz25_11 : w24.cell? ⟨gb116, 11, none⟩ = some (.slice A0_11 l0_11.length c0_11) := (blk_cell BK116.out 11).trans rfl; have hfz25_0 := blk_frozen BK116.out 0; have hfz25_1 := blk_frozen BK116.out 1; have hfz25_2 := blk_frozen BK116.out 2; have hfz25_3 := blk_frozen BK116.out 3; have hfz25_4 := blk_frozen BK116.out 4; have hfz25_5 := blk_frozen BK116.out 5; have hfz25_6 := blk_frozen BK116.out 6; have hfz25_7 := blk_frozen BK116.out 7; have hfz25_8 := blk_frozen BK116.out 8; have hfz25_9 := blk_frozen BK116.out 9; have hfz25_10 := blk_frozen BK116.out 10; have hfz25_11 := blk_frozen BK116.out 11) | ((with_reducible refine gate_callee (f := 51) rfl ?_); refine goesL_ (some 7) rfl rfl Try.func51 (by kernel_rfl) rfl #[.agg #[.int .i64 a0_0, .int .i64 a0_1, .int .i64 a0_2, .int .i64 a0_3, .int .i64 a0_4, .int .i64 a0_5, .int .i64 a0_6, .int .i64 a0_7, .int .i64 a0_8, .int .i64 a0_9, .string a0_10, .slice A0_11 l0_11.length c0_11]] rfl (by (try simp only [List.map_toArray, List.map_cons, List.map_nil]); first | done | rfl | (simp only [List.length_drop, List.length_take]; rfl)) ?_; (with_reducible refine (packet_May.calls a0_0 a0_1 a0_2 a0_3 a0_4 a0_5 a0_6 a0_7 a0_8 a0_9 a0_10 _ _ l0_11 false _ ?side1 ?side2 A2.out).mono ?_); (case side1 => repeat (first | exact (Kd.C_below HR0_11.out HB.out) | (with_reducible refine Kd.C_alloc ?_ _) | (with_reducible refine Kd.C_drewN ?_ _) | (with_reducible refine Kd.C_drew ?_))); (case side2 => exact HC0_11.out); rintro e w26 ⟨rfl, hb⟩; refine ⟨_, rfl, ?_⟩; have n0_ := Aside0.mk (blk_below (g := gb116) (o := .cells #[.int .i64 a0_0, .int .i64 a0_1, .int .i64 a0_2, .int .i64 a0_3, .int .i64 a0_4, .int .i64 a0_5, .int .i64 a0_6, .int .i64 a0_7, .int .i64 a0_8, .int .i64 a0_9, .string a0_10, .slice A0_11 l0_11.length c0_11] 54 (0, 0)) (by (with_reducible repeat (first | refine blk_drewN ?_ _ | refine blk_drew ?_ | refine blk_alloc ?_ _)); exact BK116.out) hb); have n1_ := Aside0.mk (below_step (by repeat (with_reducible first | exact HB.out | apply below_alloc | apply pw_below_drewN | apply below_drew1 | refine below_set ?_ GE116.out)) hb); clear BK116; clear HB; have BK116 := n0_; have HB := n1_; clear n0_ n1_; (try clear hb)))
  go_ret2
  exact ⟨by first | rfl | (simp [errW_none, errW_some] <;> rfl) | (simp [*, errW_none, errW_some] <;> rfl) | (simp only [str_ne_]; rfl) | (simp only [str_eq_]; rfl), by repeat (with_reducible first | exact HB.out | apply below_alloc | apply pw_below_drewN | apply below_drew1 | refine below_set ?_ GE116.out)⟩

end Go.Proofs.Ytpfanafggmkejaa.PIdentDigest
