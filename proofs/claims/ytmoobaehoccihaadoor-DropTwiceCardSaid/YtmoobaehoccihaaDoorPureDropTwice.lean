/- DropTwice: what was given back is given back, what was declined is declined: a second time changes nothing. No condition. -/
import Derived.Test.YtmoobaehoccihaaDoorPEx33
namespace Go.Proofs.YtmoobaehoccihaaDoor.Pure
open Go.RowKit Go.Proofs.YtmoobaehoccihaaDoor.PE Go.Proofs.YtmoobaehoccihaaDoorW.PrintWords Go.Proofs.YtmoobaehoccihaaDoorW.PrintLast
set_option linter.unusedSimpArgs false
set_option linter.unusedVariables false

/-- the bounds of an int. -/
theorem int_bd {a : Int} (h : (Lit.int .i64 a).wf = true) : -9223372036854775808 ≤ a ∧ a ≤ 9223372036854775807 := by
  simp only [Lit.wf, IntKind.min, IntKind.max, IntKind.signed, IntKind.bits, Bool.and_eq_true, decide_eq_true_eq, if_true] at h
  omega
theorem u64_eq (a : Int) : IntKind.u64.wrap a = a % 18446744073709551616 := by simp [IntKind.wrap, IntKind.bits, IntKind.signed]
theorem w64 {a : Int} (h : -9223372036854775808 ≤ a ∧ a ≤ 9223372036854775807) : wrap64 a = a := by unfold wrap64; omega
/-- the low bits of any int. -/
theorem and_mask (a : Int) (i : Nat) (hi : i ≤ 62) : Go.bits .and .i64 a ((2 ^ i - 1 : Nat) : Int) = a % ((2 ^ i : Nat) : Int) := by
  have hp : 0 < 2 ^ i := Nat.two_pow_pos i
  have hl : 2 ^ i ≤ 2 ^ 62 := Nat.pow_le_pow_right (by decide) hi
  show IntKind.wrap .i64 (((BitVec.ofInt 64 a &&& BitVec.ofInt 64 ((2 ^ i - 1 : Nat) : Int)).toNat : Nat) : Int) = _
  have e : (((BitVec.ofInt 64 a &&& BitVec.ofInt 64 ((2 ^ i - 1 : Nat) : Int)).toNat : Nat) : Int) = a % ((2 ^ i : Nat) : Int) := by
    rw [BitVec.toNat_and, BitVec.ofInt_natCast, BitVec.toNat_ofNat, Nat.mod_eq_of_lt (show 2 ^ i - 1 < 2 ^ 64 by omega), Nat.and_two_pow_sub_one_eq_mod, BitVec.toNat_ofInt]
    rw [Int.natCast_emod, Int.toNat_of_nonneg (Int.emod_nonneg _ (by decide))]
    exact Int.emod_emod_of_dvd a (by
      rw [Int.natCast_dvd_natCast]
      exact Nat.pow_dvd_pow 2 (by omega))
  rw [e, IntKind.wrap_i64]
  have h0 := Int.emod_nonneg a (show ((2 ^ i : Nat) : Int) ≠ 0 by omega)
  have h1 := Int.emod_lt_of_pos a (show 0 < ((2 ^ i : Nat) : Int) by omega)
  omega
theorem and_1023 (a : Int) : Go.bits .and .i64 a 1023 = a % 1024 := and_mask a 10 (by decide)
theorem and_63 (a : Int) : Go.bits .and .i64 a 63 = a % 64 := and_mask a 6 (by decide)
theorem and_255 (a : Int) : Go.bits .and .i64 a 255 = a % 256 := and_mask a 8 (by decide)
theorem and_65535 (a : Int) : Go.bits .and .i64 a 65535 = a % 65536 := and_mask a 16 (by decide)
theorem and_u32 (a : Int) : Go.bits .and .i64 a 4294967295 = a % 4294967296 := and_mask a 32 (by decide)
theorem wraps_i64 (n : Int) (h0 : 0 ≤ n) (h1 : n < 2 ^ 63) : IntKind.i64.wrap n = n := by rw [IntKind.wrap_i64]; omega
theorem or_byte (x b : Int) (hx : 0 ≤ x ∧ x < 281474976710656) (hb : 0 ≤ b ∧ b < 256) : Go.bits .or .i64 (wrap64 (x * 256)) b = x * 256 + b := by
  rw [w64 (by omega)]
  exact bits_join .i64 63 (by decide) wraps_i64 8 (x * 256) b (by omega) (by omega) (by omega) hb.1 (by omega) (by omega)
theorem fit_of {l2 : List Int} {l3 : List S72} {z : ByteArray} {l6 : List S74} (h2 : l2.length * Tryd.prog.bytesOf 3 ≤ 140737488351232) (h3 : l3.length * Tryd.prog.bytesOf 72 ≤ 140737488351232) (hz : z.size ≤ 140737488351232) (h6 : l6.length * Tryd.prog.bytesOf 74 ≤ 140737488351232) (hx : ∀ x ∈ l6, x.f0.size ≤ 140737488351232 ∧ x.f4.size ≤ 140737488351232) : confFit l2 l3 z l6 := by
  rw [show Tryd.prog.bytesOf 3 = 8 by kernel_rfl] at h2
  rw [show Tryd.prog.bytesOf 72 = 24 by kernel_rfl] at h3
  rw [show Tryd.prog.bytesOf 74 = 80 by kernel_rfl] at h6
  exact ⟨by omega, by omega, hz, by omega, hx⟩
theorem awake20 : pinfoldlaw18_awake.f 20 = some true := by kernel_rfl
theorem awake_eq (k : Nat) (hk : 20 ≤ k) : pinfoldlaw18_awake.f k = some true := at_rounds (g := fun k => pinfoldlaw18_awake.f k) pinfoldlaw18_awake.mono (k := 20) hk awake20
theorem wrap_succ (i n : Nat) (h : i < n) (hn : n ≤ 140737488351232) : wrap64 ((i : Int) + 1) = ((i + 1 : Nat) : Int) := by
  rw [w64 (by omega)]
  omega
theorem samleases_l0 (l : List S42) (hl : l.length ≤ 140737488351232) : ∀ (d k i : Nat), i + d = l.length → d + 1 ≤ k → pinfoldlaw0_SameLeases.l0 k l l (i : Int) = some true
  | 0, k, i, hi, hk => by
    obtain ⟨k, rfl⟩ : ∃ j, k = j + 1 := ⟨k - 1, by omega⟩
    rw [pinfoldlaw0_SameLeases.l0, if_neg (by omega)]
  | d + 1, k, i, hi, hk => by
    obtain ⟨k, rfl⟩ : ∃ j, k = j + 1 := ⟨k - 1, by omega⟩
    rw [pinfoldlaw0_SameLeases.l0, if_pos (by omega), if_pos (by omega), if_pos (by omega), if_neg (by simp), wrap_succ i l.length (by omega) hl]
    exact samleases_l0 l hl d k (i + 1) (by omega) (by omega)
theorem goTab_sorted : ∀ (l : List S42) (p : Option Int), goTab p l = true → (∀ x ∈ l, leaseOk x = true) ∧ l.Pairwise (fun a b => a.f0 < b.f0) ∧ ∀ q, p = some q → ∀ x ∈ l, q < x.f0
  | [], p, _ => ⟨fun _ h => by simp at h, List.Pairwise.nil, fun _ _ _ h => by simp at h⟩
  | x :: r, p, h => by
    unfold goTab at h
    rw [Bool.and_eq_true, Bool.and_eq_true] at h
    obtain ⟨h1, h2, h3⟩ := h
    obtain ⟨i1, i2, i3⟩ := goTab_sorted r (some x.f0) h3
    have i4 := i3 x.f0 rfl
    refine ⟨fun y hy => ?_, List.pairwise_cons.2 ⟨i4, i2⟩, fun q hq y hy => ?_⟩
    · rcases List.mem_cons.1 hy with e | hy
      · rw [e]
        exact h1
      · exact i1 y hy
    · subst hq
      have hx : q < x.f0 := of_decide_eq_true h2
      rcases List.mem_cons.1 hy with e | hy
      · rw [e]
        exact hx
      · have := i4 y hy
        omega
theorem table_sorted {l : List S42} (h : tableB l = true) : (∀ x ∈ l, leaseOk x = true) ∧ l.Pairwise (fun a b => a.f0 < b.f0) ∧ l.length ≤ 8 := by
  unfold tableB at h
  rw [Bool.and_eq_true, decide_eq_true_eq] at h
  exact ⟨(goTab_sorted l none h.1).1, (goTab_sorted l none h.1).2.1, h.2⟩
/-- hosts stand once. -/
theorem host_once : ∀ {l : List S42}, l.Pairwise (fun a b => a.f0 < b.f0) → ∀ x ∈ l, ∀ y ∈ l, x.f0 = y.f0 → x = y
  | [], _, x, hx, _, _, _ => by simp at hx
  | a :: r, h, x, hx, y, hy, e => by
    obtain ⟨h1, h2⟩ := List.pairwise_cons.1 h
    rcases List.mem_cons.1 hx with hx1 | hx1
    · rcases List.mem_cons.1 hy with hy1 | hy1
      · rw [hx1, hy1]
      · have := h1 y hy1
        rw [hx1] at e
        omega
    · rcases List.mem_cons.1 hy with hy1 | hy1
      · have := h1 x hx1
        rw [hy1] at e
        omega
      · exact host_once h2 x hx1 y hy1 e
theorem put_done : ∀ (l : List S42) (y : S42), (∀ x ∈ l, x.f0 ≠ y.f0) → putGo y true l = l
  | [], y, _ => rfl
  | x :: r, y, h => by
    unfold putGo
    rw [if_neg (by simp), if_neg (h x List.mem_cons_self), Bool.true_or, put_done r y (fun z hz => h z (List.mem_cons_of_mem _ hz))]
    rfl
/-- a lease in the place of another one of the same host. -/
theorem put_swap : ∀ (l : List S42) (y : S42), l.Pairwise (fun a b => a.f0 < b.f0) → (∃ x ∈ l, x.f0 = y.f0) → putGo y false l = swapL l y.f0 y
  | [], y, _, ⟨x, hx, _⟩ => by simp at hx
  | x :: r, y, h, ⟨x', hx', e'⟩ => by
    obtain ⟨h1, h2⟩ := List.pairwise_cons.1 h
    unfold putGo swapL
    rw [List.map_cons]
    by_cases q : x.f0 = y.f0
    · rw [if_pos ⟨rfl, by omega⟩, if_pos q, if_pos q, decide_eq_true (by omega), Bool.or_true]
      have hr : ∀ z ∈ r, z.f0 ≠ y.f0 := fun z hz => by have := h1 z hz; omega
      rw [put_done r y hr]
      have hm : r.map (fun x => if x.f0 = y.f0 then y else x) = r := (List.map_congr_left (g := id) (fun z hz => if_neg (hr z hz)) : r.map (fun x => if x.f0 = y.f0 then y else x) = r.map id).trans (List.map_id r)
      rw [hm]
      rfl
    · have hr : x' ∈ r := by
        rcases List.mem_cons.1 hx' with e | e
        · rw [e] at e'
          exact absurd e' q
        · exact e
      have hlt := h1 x' hr
      rw [if_neg (by omega), if_neg q, if_neg q, decide_eq_false (by omega), Bool.or_false, put_swap r y h2 ⟨x', hr, e'⟩]
      rfl
theorem swap_id (l : List S42) (host : Int) (y : S42) (h : ∀ x ∈ l, x.f0 = host → x = y) : swapL l host y = l := by
  have hm : l.map (fun x => if x.f0 = host then y else x) = l.map id := List.map_congr_left (fun z hz => by
    by_cases e : z.f0 = host
    · rw [if_pos e, h z hz e]
      rfl
    · rw [if_neg e]
      rfl)
  exact hm.trans (List.map_id l)
theorem find_some {l : List S42} {h : Int} {x : S42} (e : findL l h = some x) : x ∈ l ∧ x.f0 = h := by
  unfold findL at e
  refine ⟨List.mem_of_find?_eq_some e, ?_⟩
  have := List.find?_some e
  simpa using this
theorem find_none {l : List S42} {h : Int} (e : findL l h = none) : ∀ x ∈ l, x.f0 ≠ h := fun x hx => by
  unfold findL at e
  have := List.find?_eq_none.1 e x hx
  simpa using this
theorem same_some (l m : List S42) (e : l.length = m.length) (hl : l.length ≤ 140737488351232) : ∀ (d k i : Nat), i + d = l.length → d + 1 ≤ k → ∃ b, pinfoldlaw0_SameLeases.l0 k l m (i : Int) = some b
  | 0, k, i, hi, hk => by
    obtain ⟨k, rfl⟩ : ∃ j, k = j + 1 := ⟨k - 1, by omega⟩
    exact ⟨true, by rw [pinfoldlaw0_SameLeases.l0, if_neg (by omega)]⟩
  | d + 1, k, i, hi, hk => by
    obtain ⟨k, rfl⟩ : ∃ j, k = j + 1 := ⟨k - 1, by omega⟩
    obtain ⟨b, hb⟩ := same_some l m e hl d k (i + 1) (by omega) (by omega)
    rw [pinfoldlaw0_SameLeases.l0, if_pos (by omega), if_pos (by omega), if_pos (by omega), wrap_succ i l.length (by omega) hl, hb]
    split
    · exact ⟨false, rfl⟩
    · exact ⟨b, rfl⟩
theorem same_self (l : List S42) (h8 : l.length ≤ 8) (k : Nat) (hk : 9 ≤ k) : pinfoldlaw0_SameLeases.f k l l = some true := by
  unfold pinfoldlaw0_SameLeases.f
  rw [if_pos rfl]
  exact samleases_l0 l (by omega) l.length k 0 (by omega) (by omega)
theorem same_any (l m : List S42) (e : l.length = m.length) (h8 : l.length ≤ 8) (k : Nat) (hk : 9 ≤ k) : ∃ b, pinfoldlaw0_SameLeases.f k l m = some b := by
  unfold pinfoldlaw0_SameLeases.f
  rw [if_pos (by rw [e])]
  exact same_some l m e (by omega) l.length k 0 (by omega) (by omega)
theorem swap_cons (x : S42) (r : List S42) (host : Int) (y : S42) : swapL (x :: r) host y = (if x.f0 = host then y else x) :: swapL r host y := rfl
theorem go_swap (host : Int) (y : S42) (hh : y.f0 = host) (hy : leaseOk y = true) : ∀ (l : List S42) (p : Option Int), goTab p l = true → goTab p (swapL l host y) = true
  | [], p, h => h
  | x :: r, p, h => by
    unfold goTab at h
    rw [Bool.and_eq_true, Bool.and_eq_true] at h
    obtain ⟨h1, h2, h3⟩ := h
    have i := go_swap host y hh hy r (some x.f0) h3
    rw [swap_cons]
    unfold goTab
    by_cases q : x.f0 = host
    · rw [← q] at i
      rw [if_pos q, hh, hy, ← q, h2, i]
      rfl
    · rw [if_neg q, h1, h2, i]
      rfl
theorem table_swap (host : Int) (y : S42) (hh : y.f0 = host) (hy : leaseOk y = true) (l : List S42) (h : tableB l = true) : tableB (swapL l host y) = true := by
  unfold tableB at h ⊢
  rw [Bool.and_eq_true] at h ⊢
  refine ⟨go_swap host y hh hy l none h.1, ?_⟩
  unfold swapL
  rw [List.length_map]
  exact h.2
theorem find_swap (host : Int) (y : S42) (hh : y.f0 = host) : ∀ (l : List S42) (x : S42), findL l host = some x → findL (swapL l host y) host = some y
  | [], x, h => by cases h
  | a :: r, x, h => by
    rw [swap_cons]
    unfold findL at h ⊢
    rw [List.find?_cons] at h
    by_cases q : a.f0 = host
    · rw [if_pos q, List.find?_cons]
      have e : (y.f0 == host) = true := beq_iff_eq.2 hh
      rw [e]
    · have e : (a.f0 == host) = false := beq_eq_false_iff_ne.2 q
      rw [e] at h
      rw [if_neg q, List.find?_cons, e]
      exact find_swap host y hh r x h
theorem swap_len (l : List S42) (host : Int) (y : S42) : (swapL l host y).length = l.length := by
  unfold swapL
  rw [List.length_map]
theorem fit_swap (host : Int) (y : S42) (hy : y.f4.size ≤ 140737488351232) (l : List S42) (h : tabFit l) : tabFit (swapL l host y) := by
  refine ⟨by rw [swap_len]; exact h.1, ?_⟩
  intro x hx
  unfold swapL at hx
  obtain ⟨a, ha, e⟩ := List.mem_map.1 hx
  by_cases q : a.f0 = host
  · rw [if_pos q] at e
    rw [← e]
    exact hy
  · rw [if_neg q] at e
    rw [← e]
    exact h.2 a ha
theorem oth_no (p : S42 → Bool) (ls : List S42) (host : Int) (t : S42) (hs : ls.Pairwise (fun a b => a.f0 < b.f0)) (h : ∀ x, findL ls host = some x → p x = false) : swapL ls host (thenL p ls host t) = ls := by
  unfold thenL
  cases hf : findL ls host with
  | none => exact swap_id ls host _ (fun x hx e => absurd e (find_none hf x hx))
  | some x =>
    obtain ⟨hx, he⟩ := find_some hf
    simp only [h x hf, Bool.false_eq_true, if_false]
    exact swap_id ls host x (fun y hy e => host_once hs y hy x hx (by rw [e, he]))
theorem oth_yes (p : S42 → Bool) (ls : List S42) (host : Int) (t x : S42) (hf : findL ls host = some x) (h : p x = true) : swapL ls host (thenL p ls host t) = swapL ls host ⟨host, t.f1, t.f2, t.f3, t.f4, t.f5⟩ := by
  unfold thenL
  simp only [hf, h, if_true]
theorem twice_ok (k : Nat) (hk : 9 ≤ k) (ls A B DA : List S42) (h8 : ls.length ≤ 8) (hA : A.length = ls.length) (hB : B.length = ls.length) (hd : A = ls ∨ DA = A) : pinfoldlaw18_DropTwice.j1 (k + 1) ls A B A DA B B false = some true := by
  have sA := same_self A (by omega) k hk
  have sB := same_self B (by omega) k hk
  rw [pinfoldlaw18_DropTwice.j1, if_neg (by decide), sA, sB]
  rcases hd with e | e
  · rw [e] at sA ⊢
    simp [sA, sB]
  · rw [e]
    obtain ⟨b, hb⟩ := same_any A ls hA (by omega) k hk
    rw [hb]
    cases b <;> simp [sA, sB]
/-- what was given back is given back, what was declined is declined: a second time changes nothing. -/
theorem DropTwice : pinfoldlaw18_DropTwice.Pure := by
  intro a0 a1 l2 l3 a4 z l6 ls now c host _ _ w2 w3 _ w5 w6 w7 wn wc _
  have hf : confFit l2 l3 z l6 := fit_of w2.1 w3.1 w5 w6.1 (fun x hx => ⟨(w6.2 x hx).1, (w6.2 x hx).2.2.2.2.1⟩)
  have ht : tabFit ls := by
    have h7 := w7.1
    rw [show Tryd.prog.bytesOf 42 = 64 by kernel_rfl] at h7
    exact ⟨by omega, fun x hx => (w7.2 x hx).2.2.2.2.1⟩
  refine ⟨31, ?_⟩
  unfold pinfoldlaw18_DropTwice.f
  rw [awake_eq 31 (by omega), Option.bind_some, if_pos rfl]
  have eR : ∀ l, tabFit l → drop_Release.f a0 a1 l2 l3 a4 z l6 l now c host = some (otherV (boundX c now) a0 a1 l2 l3 a4 z l6 l now c host ⟨0, 0, c, now, ⟨#[]⟩, false⟩) := fun l h => by
    unfold drop_Release.f
    rw [if_pos ⟨hf, h⟩]
  have eD : ∀ l, tabFit l → drop_Decline.f a0 a1 l2 l3 a4 z l6 l now c host = some (otherV (holdsX c now) a0 a1 l2 l3 a4 z l6 l now c host ⟨0, 3, ⟨#[]⟩, wrap64 (now + 64), ⟨#[]⟩, false⟩) := fun l h => by
    unfold drop_Decline.f
    rw [if_pos ⟨hf, h⟩]
  rw [eR ls ht, eD ls ht]
  cases hM : (pickMayB a0 a1 l2 l3 a4 z l6 ls now c && decide (0 ≤ now ∧ now ≤ 1099510579200)) with
  | false =>
    unfold otherV
    rw [hM, if_neg (by decide), if_neg (by decide)]
    refine Eq.trans ?_ (Eq.refl (some true))
    kernel_rfl
  | true =>
    have hM2 := hM
    rw [Bool.and_eq_true, decide_eq_true_eq] at hM2
    obtain ⟨hpm, hnow⟩ := hM2
    unfold pickMayB at hpm
    simp only [Bool.and_eq_true, decide_eq_true_eq] at hpm
    obtain ⟨hcf, hT, _, hcl⟩ := hpm
    obtain ⟨hok, hs, h8⟩ := table_sorted hT
    have hw : wrap64 (now + 64) = now + 64 := by
      unfold wrap64
      omega
    have vM : ∀ l, tableB l = true → (pickMayB a0 a1 l2 l3 a4 z l6 l now c && decide (0 ≤ now ∧ now ≤ 1099510579200)) = true := by
      intro l h
      unfold pickMayB
      rw [hcf, h, hcl, decide_eq_true hnow, decide_eq_true (show 0 ≤ now ∧ now ≤ 1099511627776 by omega)]
      rfl
    have oV : ∀ p l t, tableB l = true → otherV p a0 a1 l2 l3 a4 z l6 l now c host t = (swapL l host (thenL p l host t), 0) := by
      intro p l t h
      unfold otherV
      rw [vM l h, if_pos rfl]
    -- all that is asked of the two answers
    have main : ∀ A B DA, tabFit A → tabFit B → tableB A = true → tableB B = true → A.length = ls.length → B.length = ls.length → (A = ls ∨ DA = A) →
        swapL ls host (thenL (boundX c now) ls host ⟨0, 0, c, now, ⟨#[]⟩, false⟩) = A → swapL ls host (thenL (holdsX c now) ls host ⟨0, 3, ⟨#[]⟩, wrap64 (now + 64), ⟨#[]⟩, false⟩) = B →
        swapL A host (thenL (boundX c now) A host ⟨0, 0, c, now, ⟨#[]⟩, false⟩) = A → swapL A host (thenL (holdsX c now) A host ⟨0, 3, ⟨#[]⟩, wrap64 (now + 64), ⟨#[]⟩, false⟩) = DA →
        swapL B host (thenL (boundX c now) B host ⟨0, 0, c, now, ⟨#[]⟩, false⟩) = B → swapL B host (thenL (holdsX c now) B host ⟨0, 3, ⟨#[]⟩, wrap64 (now + 64), ⟨#[]⟩, false⟩) = B →
        ((some (otherV (boundX c now) a0 a1 l2 l3 a4 z l6 ls now c host ⟨0, 0, c, now, ⟨#[]⟩, false⟩)).bind fun bt183 => (some (otherV (holdsX c now) a0 a1 l2 l3 a4 z l6 ls now c host ⟨0, 3, ⟨#[]⟩, wrap64 (now + 64), ⟨#[]⟩, false⟩)).bind fun bt187 => ((pinfoldlaw0_Num.f bt183.2).bind fun t191 => (if t191 = 0 then ((pinfoldlaw0_Num.f bt187.2).bind fun t192 => (pinfoldlaw18_DropTwice.j0 31 ls now c host bt183.1 bt187.1 (t192 != 0) a0 a1 l2 l3 a4 z l6)) else (pinfoldlaw18_DropTwice.j0 31 ls now c host bt183.1 bt187.1 true a0 a1 l2 l3 a4 z l6)))) = some true := by
      intro A B DA fA fB tA tB lA lB hd e1 e2 e3 e4 e5 e6
      rw [oV _ ls _ hT, oV _ ls _ hT, e1, e2]
      simp only [Option.bind_some, pinfoldlaw0_Num.f, if_true, bne_self_eq_false]
      rw [pinfoldlaw18_DropTwice.j0, if_neg (by decide), eR A fA, eD A fA, eR B fB, eD B fB, oV _ A _ tA, oV _ A _ tA, oV _ B _ tB, oV _ B _ tB, e3, e4, e5, e6]
      simp only [Option.bind_some, pinfoldlaw0_Num.f, if_true, bne_self_eq_false]
      exact twice_ok 29 (by omega) ls A B DA h8 lA lB hd
    have noHold : ∀ l, (∀ x, findL l host = some x → holdsX c now x = false) → ∀ x, findL l host = some x → boundX c now x = false := by
      intro l h x hx
      have e : boundX c now x = (holdsX c now x && decide (x.f1 = 2)) := rfl
      rw [e, h x hx, Bool.false_and]
    by_cases q : ∃ x, findL ls host = some x ∧ holdsX c now x = true
    · obtain ⟨x, hx, hh⟩ := q
      obtain ⟨hxm, hxh⟩ := find_some hx
      have hxo := hok x hxm
      have hrng : 2 ≤ host ∧ host ≤ 254 := by
        have h1 : leaseB x.f0 x.f1 x.f2 x.f3 x.f4 x.f5 = true := hxo
        unfold leaseB at h1
        simp only [Bool.and_eq_true, decide_eq_true_eq] at h1
        omega
      have hcz : c.size ≤ 16 := by
        have h1 : clientB c = true := hcl
        unfold clientB at h1
        have := of_decide_eq_true h1
        omega
      have nb : nameB (bytesOf (⟨#[]⟩ : ByteArray)) = true := by kernel_rfl
      have s3 : stateB 3 (⟨#[]⟩ : ByteArray) (⟨#[]⟩ : ByteArray) false = true := by kernel_rfl
      have s0 : stateB 0 c (⟨#[]⟩ : ByteArray) false = true := by
        unfold stateB
        rw [if_pos (.inl rfl)]
        kernel_rfl
      have okD : leaseOk (⟨host, 3, ⟨#[]⟩, wrap64 (now + 64), ⟨#[]⟩, false⟩ : S42) = true := by
        show leaseB host 3 ⟨#[]⟩ (wrap64 (now + 64)) ⟨#[]⟩ false = true
        unfold leaseB
        rw [hw, decide_eq_true hrng, decide_eq_true (show 0 ≤ now + 64 ∧ now + 64 ≤ 1099511627776 by omega), nb, s3]
        rfl
      have okR : leaseOk (⟨host, 0, c, now, ⟨#[]⟩, false⟩ : S42) = true := by
        show leaseB host 0 c now ⟨#[]⟩ false = true
        unfold leaseB
        rw [decide_eq_true hrng, decide_eq_true hcz, decide_eq_true (show 0 ≤ now ∧ now ≤ 1099511627776 by omega), nb, s0]
        rfl
      have nD : holdsX c now (⟨host, 3, ⟨#[]⟩, wrap64 (now + 64), ⟨#[]⟩, false⟩ : S42) = false := by
        show holdsB host 3 ⟨#[]⟩ (wrap64 (now + 64)) ⟨#[]⟩ false c now = false
        unfold holdsB
        rw [show decide ((3 : Int) ≠ 3) = false from rfl, Bool.false_and, Bool.and_false]
      have nR : holdsX c now (⟨host, 0, c, now, ⟨#[]⟩, false⟩ : S42) = false := by
        show holdsB host 0 c now ⟨#[]⟩ false c now = false
        unfold holdsB liveB
        rw [show decide ((0 : Int) ≠ 0) = false from rfl, Bool.and_false, Bool.false_and, Bool.false_and]
      have e2 := oth_yes (holdsX c now) ls host ⟨0, 3, ⟨#[]⟩, wrap64 (now + 64), ⟨#[]⟩, false⟩ x hx hh
      have tB := table_swap host ⟨host, 3, ⟨#[]⟩, wrap64 (now + 64), ⟨#[]⟩, false⟩ rfl okD ls hT
      have fB := fit_swap host ⟨host, 3, ⟨#[]⟩, wrap64 (now + 64), ⟨#[]⟩, false⟩ (show (⟨#[]⟩ : ByteArray).size ≤ 140737488351232 by decide) ls ht
      have lB := swap_len ls host ⟨host, 3, ⟨#[]⟩, wrap64 (now + 64), ⟨#[]⟩, false⟩
      have gB := find_swap host ⟨host, 3, ⟨#[]⟩, wrap64 (now + 64), ⟨#[]⟩, false⟩ rfl ls x hx
      have hB : ∀ y, findL (swapL ls host ⟨host, 3, ⟨#[]⟩, wrap64 (now + 64), ⟨#[]⟩, false⟩) host = some y → holdsX c now y = false := by
        intro y hy
        rw [gB] at hy
        rw [← Option.some.inj hy]
        exact nD
      have sB := (table_sorted tB).2.1
      cases hbd : boundX c now x with
      | false =>
        have hb : ∀ y, findL ls host = some y → boundX c now y = false := by
          intro y hy
          rw [hx] at hy
          rw [← Option.some.inj hy]
          exact hbd
        exact main ls _ _ ht fB hT tB rfl lB (.inl rfl) (oth_no _ ls host _ hs hb) e2 (oth_no _ ls host _ hs hb) rfl (oth_no _ _ host _ sB (noHold _ hB)) (oth_no _ _ host _ sB hB)
      | true =>
        have e1 := oth_yes (boundX c now) ls host ⟨0, 0, c, now, ⟨#[]⟩, false⟩ x hx hbd
        have tA := table_swap host ⟨host, 0, c, now, ⟨#[]⟩, false⟩ rfl okR ls hT
        have fA := fit_swap host ⟨host, 0, c, now, ⟨#[]⟩, false⟩ (show (⟨#[]⟩ : ByteArray).size ≤ 140737488351232 by decide) ls ht
        have lA := swap_len ls host ⟨host, 0, c, now, ⟨#[]⟩, false⟩
        have gA := find_swap host ⟨host, 0, c, now, ⟨#[]⟩, false⟩ rfl ls x hx
        have hA : ∀ y, findL (swapL ls host ⟨host, 0, c, now, ⟨#[]⟩, false⟩) host = some y → holdsX c now y = false := by
          intro y hy
          rw [gA] at hy
          rw [← Option.some.inj hy]
          exact nR
        have sA := (table_sorted tA).2.1
        exact main _ _ _ fA fB tA tB lA lB (.inr rfl) e1 e2 (oth_no _ _ host _ sA (noHold _ hA)) (oth_no _ _ host _ sA hA) (oth_no _ _ host _ sB (noHold _ hB)) (oth_no _ _ host _ sB hB)
    · have hn : ∀ x, findL ls host = some x → holdsX c now x = false := fun x hx => by
        cases e : holdsX c now x with
        | false => rfl
        | true => exact absurd ⟨x, hx, e⟩ q
      have n1 := oth_no (boundX c now) ls host ⟨0, 0, c, now, ⟨#[]⟩, false⟩ hs (noHold _ hn)
      have n2 := oth_no (holdsX c now) ls host ⟨0, 3, ⟨#[]⟩, wrap64 (now + 64), ⟨#[]⟩, false⟩ hs hn
      exact main ls ls ls ht ht hT hT rfl rfl (.inl rfl) n1 n2 n1 n2 n1 n2

end Go.Proofs.YtmoobaehoccihaaDoor.Pure
