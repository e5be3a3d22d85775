/- Drops: any configuration, leases, time, client, host: what is given back, or declined, is as the document says. No condition. -/
import Derived.Test.YtmoobaehoccihaaDoorPFx22
namespace Go.Proofs.YtmoobaehoccihaaDoor.Pure
open Go.RowKit Go.Proofs.YtmoobaehoccihaaDoor.PF Go.Proofs.YtmoobaehoccihaaDoorW.PrintWords Go.Proofs.YtmoobaehoccihaaDoorW.PrintLast
set_option linter.unusedSimpArgs false
set_option linter.unusedVariables false

/-- the bounds of an int. -/
theorem int_bd {a : Int} (h : (Lit.int .i64 a).wf = true) : -9223372036854775808 ≤ a ∧ a ≤ 9223372036854775807 := by
  simp only [Lit.wf, IntKind.min, IntKind.max, IntKind.signed, IntKind.bits, Bool.and_eq_true, decide_eq_true_eq, if_true] at h
  omega
theorem u64_eq (a : Int) : IntKind.u64.wrap a = a % 18446744073709551616 := by simp [IntKind.wrap, IntKind.bits, IntKind.signed]
theorem w64 {a : Int} (h : -9223372036854775808 ≤ a ∧ a ≤ 9223372036854775807) : wrap64 a = a := by unfold wrap64; omega
/-- the low bits of any int. -/
theorem and_mask (a : Int) (i : Nat) (hi : i ≤ 62) : Go.bits .and .i64 a ((2 ^ i - 1 : Nat) : Int) = a % ((2 ^ i : Nat) : Int) := by
  have hp : 0 < 2 ^ i := Nat.two_pow_pos i
  have hl : 2 ^ i ≤ 2 ^ 62 := Nat.pow_le_pow_right (by decide) hi
  show IntKind.wrap .i64 (((BitVec.ofInt 64 a &&& BitVec.ofInt 64 ((2 ^ i - 1 : Nat) : Int)).toNat : Nat) : Int) = _
  have e : (((BitVec.ofInt 64 a &&& BitVec.ofInt 64 ((2 ^ i - 1 : Nat) : Int)).toNat : Nat) : Int) = a % ((2 ^ i : Nat) : Int) := by
    rw [BitVec.toNat_and, BitVec.ofInt_natCast, BitVec.toNat_ofNat, Nat.mod_eq_of_lt (show 2 ^ i - 1 < 2 ^ 64 by omega), Nat.and_two_pow_sub_one_eq_mod, BitVec.toNat_ofInt]
    rw [Int.natCast_emod, Int.toNat_of_nonneg (Int.emod_nonneg _ (by decide))]
    exact Int.emod_emod_of_dvd a (by
      rw [Int.natCast_dvd_natCast]
      exact Nat.pow_dvd_pow 2 (by omega))
  rw [e, IntKind.wrap_i64]
  have h0 := Int.emod_nonneg a (show ((2 ^ i : Nat) : Int) ≠ 0 by omega)
  have h1 := Int.emod_lt_of_pos a (show 0 < ((2 ^ i : Nat) : Int) by omega)
  omega
theorem and_1023 (a : Int) : Go.bits .and .i64 a 1023 = a % 1024 := and_mask a 10 (by decide)
theorem and_63 (a : Int) : Go.bits .and .i64 a 63 = a % 64 := and_mask a 6 (by decide)
theorem and_255 (a : Int) : Go.bits .and .i64 a 255 = a % 256 := and_mask a 8 (by decide)
theorem and_65535 (a : Int) : Go.bits .and .i64 a 65535 = a % 65536 := and_mask a 16 (by decide)
theorem and_u32 (a : Int) : Go.bits .and .i64 a 4294967295 = a % 4294967296 := and_mask a 32 (by decide)
theorem wraps_i64 (n : Int) (h0 : 0 ≤ n) (h1 : n < 2 ^ 63) : IntKind.i64.wrap n = n := by rw [IntKind.wrap_i64]; omega
theorem or_byte (x b : Int) (hx : 0 ≤ x ∧ x < 281474976710656) (hb : 0 ≤ b ∧ b < 256) : Go.bits .or .i64 (wrap64 (x * 256)) b = x * 256 + b := by
  rw [w64 (by omega)]
  exact bits_join .i64 63 (by decide) wraps_i64 8 (x * 256) b (by omega) (by omega) (by omega) hb.1 (by omega) (by omega)
theorem fit_of {l2 : List Int} {l3 : List S72} {z : ByteArray} {l6 : List S74} (h2 : l2.length * Tryd.prog.bytesOf 3 ≤ 140737488351232) (h3 : l3.length * Tryd.prog.bytesOf 72 ≤ 140737488351232) (hz : z.size ≤ 140737488351232) (h6 : l6.length * Tryd.prog.bytesOf 74 ≤ 140737488351232) (hx : ∀ x ∈ l6, x.f0.size ≤ 140737488351232 ∧ x.f4.size ≤ 140737488351232) : confFit l2 l3 z l6 := by
  rw [show Tryd.prog.bytesOf 3 = 8 by kernel_rfl] at h2
  rw [show Tryd.prog.bytesOf 72 = 24 by kernel_rfl] at h3
  rw [show Tryd.prog.bytesOf 74 = 80 by kernel_rfl] at h6
  exact ⟨by omega, by omega, hz, by omega, hx⟩
theorem awake20 : pinfoldlaw18_awake.f 20 = some true := by kernel_rfl
theorem awake_eq (k : Nat) (hk : 20 ≤ k) : pinfoldlaw18_awake.f k = some true := at_rounds (g := fun k => pinfoldlaw18_awake.f k) pinfoldlaw18_awake.mono (k := 20) hk awake20
theorem wrap_succ (i n : Nat) (h : i < n) (hn : n ≤ 140737488351232) : wrap64 ((i : Int) + 1) = ((i + 1 : Nat) : Int) := by
  rw [w64 (by omega)]
  omega
theorem samleases_l0 (l : List S42) (hl : l.length ≤ 140737488351232) : ∀ (d k i : Nat), i + d = l.length → d + 1 ≤ k → pinfoldlaw0_SameLeases.l0 k l l (i : Int) = some true
  | 0, k, i, hi, hk => by
    obtain ⟨k, rfl⟩ : ∃ j, k = j + 1 := ⟨k - 1, by omega⟩
    rw [pinfoldlaw0_SameLeases.l0, if_neg (by omega)]
  | d + 1, k, i, hi, hk => by
    obtain ⟨k, rfl⟩ : ∃ j, k = j + 1 := ⟨k - 1, by omega⟩
    rw [pinfoldlaw0_SameLeases.l0, if_pos (by omega), if_pos (by omega), if_pos (by omega), if_neg (by simp), wrap_succ i l.length (by omega) hl]
    exact samleases_l0 l hl d k (i + 1) (by omega) (by omega)
theorem spoil_l0 (n : Nat) (hn : n ≤ 140737488351232) : ∀ (d k i : Nat) (l : List S42), l.length = n → i + d = n → d + 1 ≤ k → ∃ r, pinfoldlaw0_SpoilLeases.l0 k l (i : Int) = some r
  | 0, k, i, l, hl, hi, hk => by
    obtain ⟨k, rfl⟩ : ∃ j, k = j + 1 := ⟨k - 1, by omega⟩
    exact ⟨_, by rw [pinfoldlaw0_SpoilLeases.l0, if_neg (by omega)]⟩
  | d + 1, k, i, l, hl, hi, hk => by
    obtain ⟨k, rfl⟩ : ∃ j, k = j + 1 := ⟨k - 1, by omega⟩
    rw [pinfoldlaw0_SpoilLeases.l0, if_pos (by omega), if_pos (by omega), wrap_succ i n (by omega) hn]
    exact spoil_l0 n hn d k (i + 1) _ (by rw [List.length_set]; exact hl) (by omega) (by omega)
theorem spoil_eq (l : List S42) (hl : l.length ≤ 140737488351232) (k : Nat) (hk : l.length + 1 ≤ k) : ∃ r, pinfoldlaw0_SpoilLeases.f k l = some r := by
  unfold pinfoldlaw0_SpoilLeases.f
  exact spoil_l0 l.length hl l.length k 0 l rfl (by omega) hk
theorem copy_eq {a0 a1 : Int} {l2 : List Int} {l3 : List S72} {a4 : Int} {z : ByteArray} {l6 : List S74} (h2 : l2.length < 17592186044416) (h3 : l3.length < 5864062014805) (h6 : l6.length < 1759218604441) : pinfoldlaw0_CopyConfig.f a0 a1 l2 l3 a4 z l6 = some (a0, a1, l2, l3, a4, z, l6) := by
  unfold pinfoldlaw0_CopyConfig.f
  simp only [Option.bind_some, List.length_nil, Nat.zero_add, List.nil_append]
  rw [if_pos h2, if_pos h3, if_pos h6]
theorem sameints_l0 (l : List Int) (hl : l.length ≤ 140737488351232) : ∀ (d k i : Nat), i + d = l.length → d + 1 ≤ k → pinfoldlaw0_SameInts.l0 k l l (i : Int) = some true
  | 0, k, i, hi, hk => by
    obtain ⟨k, rfl⟩ : ∃ j, k = j + 1 := ⟨k - 1, by omega⟩
    rw [pinfoldlaw0_SameInts.l0, if_neg (by omega)]
  | d + 1, k, i, hi, hk => by
    obtain ⟨k, rfl⟩ : ∃ j, k = j + 1 := ⟨k - 1, by omega⟩
    rw [pinfoldlaw0_SameInts.l0, if_pos (by omega), if_pos (by omega), if_pos (by omega), if_pos rfl, wrap_succ i l.length (by omega) hl]
    exact sameints_l0 l hl d k (i + 1) (by omega) (by omega)
theorem samereserves_l0 (l : List S72) (hl : l.length ≤ 140737488351232) : ∀ (d k i : Nat), i + d = l.length → d + 1 ≤ k → pinfoldlaw0_SameReserves.l0 k l l (i : Int) = some true
  | 0, k, i, hi, hk => by
    obtain ⟨k, rfl⟩ : ∃ j, k = j + 1 := ⟨k - 1, by omega⟩
    rw [pinfoldlaw0_SameReserves.l0, if_neg (by omega)]
  | d + 1, k, i, hi, hk => by
    obtain ⟨k, rfl⟩ : ∃ j, k = j + 1 := ⟨k - 1, by omega⟩
    rw [pinfoldlaw0_SameReserves.l0, if_pos (by omega), if_pos (by omega), if_pos (by omega), if_neg (by simp), wrap_succ i l.length (by omega) hl]
    exact samereserves_l0 l hl d k (i + 1) (by omega) (by omega)
theorem samerrs_l0 (l : List S74) (hl : l.length ≤ 140737488351232) : ∀ (d k i : Nat), i + d = l.length → d + 1 ≤ k → pinfoldlaw0_SameRRs.l0 k l l (i : Int) = some true
  | 0, k, i, hi, hk => by
    obtain ⟨k, rfl⟩ : ∃ j, k = j + 1 := ⟨k - 1, by omega⟩
    rw [pinfoldlaw0_SameRRs.l0, if_neg (by omega)]
  | d + 1, k, i, hi, hk => by
    obtain ⟨k, rfl⟩ : ∃ j, k = j + 1 := ⟨k - 1, by omega⟩
    rw [pinfoldlaw0_SameRRs.l0, if_pos (by omega), if_pos (by omega), if_pos (by omega), if_neg (by simp), wrap_succ i l.length (by omega) hl]
    exact samerrs_l0 l hl d k (i + 1) (by omega) (by omega)
theorem sameconfig_eq {a0 a1 : Int} {l2 : List Int} {l3 : List S72} {a4 : Int} {z : ByteArray} {l6 : List S74} (h2 : l2.length ≤ 140737488351232) (h3 : l3.length ≤ 140737488351232) (h6 : l6.length ≤ 140737488351232) (k : Nat) (k2 : l2.length + 1 ≤ k) (k3 : l3.length + 1 ≤ k) (k6 : l6.length + 1 ≤ k) : pinfoldlaw0_SameConfig.f k a0 a1 l2 l3 a4 z l6 a0 a1 l2 l3 a4 z l6 = some true := by
  have e2 := sameints_l0 l2 h2 l2.length k 0 (by omega) k2
  have e3 := samereserves_l0 l3 h3 l3.length k 0 (by omega) k3
  have e6 := samerrs_l0 l6 h6 l6.length k 0 (by omega) k6
  rw [show ((0 : Nat) : Int) = 0 from rfl] at e2 e3 e6
  unfold pinfoldlaw0_SameConfig.f pinfoldlaw0_SameInts.f pinfoldlaw0_SameReserves.f pinfoldlaw0_SameRRs.f
  simp only [if_true, e2, e3, e6, Option.bind_some]
theorem goTab_sorted : ∀ (l : List S42) (p : Option Int), goTab p l = true → (∀ x ∈ l, leaseOk x = true) ∧ l.Pairwise (fun a b => a.f0 < b.f0) ∧ ∀ q, p = some q → ∀ x ∈ l, q < x.f0
  | [], p, _ => ⟨fun _ h => by simp at h, List.Pairwise.nil, fun _ _ _ h => by simp at h⟩
  | x :: r, p, h => by
    unfold goTab at h
    rw [Bool.and_eq_true, Bool.and_eq_true] at h
    obtain ⟨h1, h2, h3⟩ := h
    obtain ⟨i1, i2, i3⟩ := goTab_sorted r (some x.f0) h3
    have i4 := i3 x.f0 rfl
    refine ⟨fun y hy => ?_, List.pairwise_cons.2 ⟨i4, i2⟩, fun q hq y hy => ?_⟩
    · rcases List.mem_cons.1 hy with e | hy
      · rw [e]
        exact h1
      · exact i1 y hy
    · subst hq
      have hx : q < x.f0 := of_decide_eq_true h2
      rcases List.mem_cons.1 hy with e | hy
      · rw [e]
        exact hx
      · have := i4 y hy
        omega
theorem table_sorted {l : List S42} (h : tableB l = true) : (∀ x ∈ l, leaseOk x = true) ∧ l.Pairwise (fun a b => a.f0 < b.f0) ∧ l.length ≤ 8 := by
  unfold tableB at h
  rw [Bool.and_eq_true, decide_eq_true_eq] at h
  exact ⟨(goTab_sorted l none h.1).1, (goTab_sorted l none h.1).2.1, h.2⟩
/-- hosts stand once. -/
theorem host_once : ∀ {l : List S42}, l.Pairwise (fun a b => a.f0 < b.f0) → ∀ x ∈ l, ∀ y ∈ l, x.f0 = y.f0 → x = y
  | [], _, x, hx, _, _, _ => by simp at hx
  | a :: r, h, x, hx, y, hy, e => by
    obtain ⟨h1, h2⟩ := List.pairwise_cons.1 h
    rcases List.mem_cons.1 hx with hx1 | hx1
    · rcases List.mem_cons.1 hy with hy1 | hy1
      · rw [hx1, hy1]
      · have := h1 y hy1
        rw [hx1] at e
        omega
    · rcases List.mem_cons.1 hy with hy1 | hy1
      · have := h1 x hx1
        rw [hy1] at e
        omega
      · exact host_once h2 x hx1 y hy1 e
theorem put_done : ∀ (l : List S42) (y : S42), (∀ x ∈ l, x.f0 ≠ y.f0) → putGo y true l = l
  | [], y, _ => rfl
  | x :: r, y, h => by
    unfold putGo
    rw [if_neg (by simp), if_neg (h x List.mem_cons_self), Bool.true_or, put_done r y (fun z hz => h z (List.mem_cons_of_mem _ hz))]
    rfl
/-- a lease in the place of another one of the same host. -/
theorem put_swap : ∀ (l : List S42) (y : S42), l.Pairwise (fun a b => a.f0 < b.f0) → (∃ x ∈ l, x.f0 = y.f0) → putGo y false l = swapL l y.f0 y
  | [], y, _, ⟨x, hx, _⟩ => by simp at hx
  | x :: r, y, h, ⟨x', hx', e'⟩ => by
    obtain ⟨h1, h2⟩ := List.pairwise_cons.1 h
    unfold putGo swapL
    rw [List.map_cons]
    by_cases q : x.f0 = y.f0
    · rw [if_pos ⟨rfl, by omega⟩, if_pos q, if_pos q, decide_eq_true (by omega), Bool.or_true]
      have hr : ∀ z ∈ r, z.f0 ≠ y.f0 := fun z hz => by have := h1 z hz; omega
      rw [put_done r y hr]
      have hm : r.map (fun x => if x.f0 = y.f0 then y else x) = r := (List.map_congr_left (g := id) (fun z hz => if_neg (hr z hz)) : r.map (fun x => if x.f0 = y.f0 then y else x) = r.map id).trans (List.map_id r)
      rw [hm]
      rfl
    · have hr : x' ∈ r := by
        rcases List.mem_cons.1 hx' with e | e
        · rw [e] at e'
          exact absurd e' q
        · exact e
      have hlt := h1 x' hr
      rw [if_neg (by omega), if_neg q, if_neg q, decide_eq_false (by omega), Bool.or_false, put_swap r y h2 ⟨x', hr, e'⟩]
      rfl
theorem swap_id (l : List S42) (host : Int) (y : S42) (h : ∀ x ∈ l, x.f0 = host → x = y) : swapL l host y = l := by
  have hm : l.map (fun x => if x.f0 = host then y else x) = l.map id := List.map_congr_left (fun z hz => by
    by_cases e : z.f0 = host
    · rw [if_pos e, h z hz e]
      rfl
    · rw [if_neg e]
      rfl)
  exact hm.trans (List.map_id l)
theorem find_some {l : List S42} {h : Int} {x : S42} (e : findL l h = some x) : x ∈ l ∧ x.f0 = h := by
  unfold findL at e
  refine ⟨List.mem_of_find?_eq_some e, ?_⟩
  have := List.find?_some e
  simpa using this
theorem find_none {l : List S42} {h : Int} (e : findL l h = none) : ∀ x ∈ l, x.f0 ≠ h := fun x hx => by
  unfold findL at e
  have := List.find?_eq_none.1 e x hx
  simpa using this
theorem asked_early (a0 a1 : Int) (l2 : List Int) (l3 : List S72) (a4 : Int) (z : ByteArray) (l6 : List S74) (ls : List S42) (now : Int) (c : ByteArray) : (pickMayB a0 a1 l2 l3 a4 z l6 ls now c && decide (0 ≤ now ∧ now ≤ 1099510579200)) = askedB a0 a1 l2 l3 a4 z l6 ls now c 1099510579200 := by
  unfold pickMayB askedB
  by_cases q : 0 ≤ now ∧ now ≤ 1099510579200
  · rw [decide_eq_true q, decide_eq_true (show 0 ≤ now ∧ now ≤ 1099511627776 by omega), Bool.and_true]
  · rw [decide_eq_false q, Bool.and_false, Bool.false_and, Bool.and_false, Bool.and_false]
theorem other_ok (p : S42 → Bool) (ls : List S42) (host : Int) (t : S42) (hs : ls.Pairwise (fun a b => a.f0 < b.f0)) : swapL ls host (thenL p ls host t) = match findL ls host with
    | some x => if p x = true then putL ls ⟨host, t.f1, t.f2, t.f3, t.f4, t.f5⟩ else ls
    | none => ls := by
  unfold thenL
  cases hf : findL ls host with
  | none => exact swap_id ls host _ (fun x hx e => absurd e (find_none hf x hx))
  | some x =>
    obtain ⟨hx, he⟩ := find_some hf
    simp only
    by_cases q : p x = true
    · rw [if_pos q, if_pos q]
      exact (put_swap ls ⟨host, t.f1, t.f2, t.f3, t.f4, t.f5⟩ hs ⟨x, hx, he⟩).symm
    · rw [if_neg q, if_neg q]
      exact swap_id ls host x (fun y hy e => host_once hs y hy x hx (by rw [e, he]))
section
variable {a0 a1 : Int} {l2 : List Int} {l3 : List S72} {a4 : Int} {z : ByteArray} {l6 : List S74}
theorem asked_table {ls : List S42} {now : Int} {c : ByteArray} {m : Int} (h : askedB a0 a1 l2 l3 a4 z l6 ls now c m = true) : confB a0 a1 l2 l3 a4 z l6 = true ∧ tableB ls = true ∧ (0 ≤ now ∧ now ≤ m) ∧ clientB c = true := by
  unfold askedB at h
  simp only [Bool.and_eq_true, decide_eq_true_eq] at h
  exact ⟨h.1, h.2.1, h.2.2.1, h.2.2.2⟩
theorem refrel_eq (hf : confFitR l2 l3 z l6) (ls : List S42) (ht : tabFitR ls) (now : Int) (c : ByteArray) (host : Int) : pinfoldref11_Release.f a0 a1 l2 l3 a4 z l6 ls now c host = some (otherV (boundX c now) a0 a1 l2 l3 a4 z l6 ls now c host ⟨0, 0, c, now, ⟨#[]⟩, false⟩) := by
  unfold pinfoldref11_Release.f pinfoldref11_asked_c.f otherV
  rw [if_pos ⟨hf, ht⟩, Option.bind_some, asked_early]
  cases hA : askedB a0 a1 l2 l3 a4 z l6 ls now c 1099510579200 with
  | false => rfl
  | true =>
    obtain ⟨_, hT, _, _⟩ := asked_table hA
    obtain ⟨hok, hs, h8⟩ := table_sorted hT
    rw [if_pos rfl, if_pos rfl, other_ok _ _ _ _ hs]
    unfold pinfoldref11_FindLease_c.f
    rw [if_pos (by omega), Option.bind_some]
    cases hfd : findL ls host with
    | none =>
      simp only [Option.isSome_none, Bool.false_eq_true, if_false, Option.bind_some, List.length_nil, List.nil_append, Nat.zero_add]
      rw [if_pos (by omega)]
    | some x =>
      have hx := (find_some hfd).1
      have hsz := ht.2 x hx
      simp only [Option.isSome_some, if_true, gotL, Option.getD_some]
      unfold pinfoldref11_his_c.f
      rw [if_pos hsz, Option.bind_some]
      have hb : boundX c now x = (holdsB x.f0 x.f1 x.f2 x.f3 x.f4 x.f5 c now && decide (x.f1 = 2)) := rfl
      rw [hb]
      cases holdsB x.f0 x.f1 x.f2 x.f3 x.f4 x.f5 c now with
      | false =>
        simp only [Bool.false_eq_true, if_false, Bool.false_and, Option.bind_some, List.length_nil, List.nil_append, Nat.zero_add]
        rw [if_pos (by omega)]
      | true =>
        by_cases q : x.f1 = 2
        · unfold pinfoldref11_put_c.f
          simp [q, show ls.length ≤ 1099511627776 by omega]
        · simp [q, show ls.length < 2199023255552 by omega]
theorem refdec_eq (hf : confFitR l2 l3 z l6) (ls : List S42) (ht : tabFitR ls) (now : Int) (c : ByteArray) (host : Int) : pinfoldref11_Decline.f a0 a1 l2 l3 a4 z l6 ls now c host = some (otherV (holdsX c now) a0 a1 l2 l3 a4 z l6 ls now c host ⟨0, 3, ⟨#[]⟩, wrap64 (now + 64), ⟨#[]⟩, false⟩) := by
  unfold pinfoldref11_Decline.f pinfoldref11_asked_c.f otherV
  rw [if_pos ⟨hf, ht⟩, Option.bind_some, asked_early]
  cases hA : askedB a0 a1 l2 l3 a4 z l6 ls now c 1099510579200 with
  | false => rfl
  | true =>
    obtain ⟨_, hT, _, _⟩ := asked_table hA
    obtain ⟨hok, hs, h8⟩ := table_sorted hT
    rw [if_pos rfl, if_pos rfl, other_ok _ _ _ _ hs]
    unfold pinfoldref11_FindLease_c.f
    rw [if_pos (by omega), Option.bind_some]
    cases hfd : findL ls host with
    | none =>
      simp only [Option.isSome_none, Bool.false_eq_true, if_false, Option.bind_some, List.length_nil, List.nil_append, Nat.zero_add]
      rw [if_pos (by omega)]
    | some x =>
      have hx := (find_some hfd).1
      have hsz := ht.2 x hx
      simp only [Option.isSome_some, if_true, gotL, Option.getD_some]
      unfold pinfoldref11_his_c.f
      rw [if_pos hsz, Option.bind_some]
      have hb : holdsX c now x = holdsB x.f0 x.f1 x.f2 x.f3 x.f4 x.f5 c now := rfl
      rw [hb]
      cases holdsB x.f0 x.f1 x.f2 x.f3 x.f4 x.f5 c now with
      | false =>
        simp only [Bool.false_eq_true, if_false, Option.bind_some, List.length_nil, List.nil_append, Nat.zero_add]
        rw [if_pos (by omega)]
      | true =>
        unfold pinfoldref11_put_c.f
        rw [if_pos rfl, if_pos (by omega)]
        rfl
theorem other_len (p : S42 → Bool) (ls : List S42) (now : Int) (c : ByteArray) (host : Int) (t : S42) : (otherV p a0 a1 l2 l3 a4 z l6 ls now c host t).1.length ≤ ls.length := by
  unfold otherV
  split
  · unfold swapL
    rw [List.length_map]
    exact Nat.le_refl _
  · exact Nat.zero_le _
end
/-- any configuration, leases, time, client, host: what is given back, or declined, is as the document says. -/
theorem Drops : pinfoldlaw18_Drops.Pure := by
  intro a0 a1 l2 l3 a4 z l6 ls now c host w0 w1 h2 h3 w4 hz h6 hl w8 hc w9
  have hx : ∀ x ∈ l6, x.f0.size ≤ 1048576 ∧ x.f4.size ≤ 1048576 := fun x hx => ⟨(h6.2 x hx).1, (h6.2 x hx).2.2.2.2.1⟩
  have hy : ∀ x ∈ ls, x.f4.size ≤ 1048576 := fun x hx => (hl.2 x hx).2.2.2.2.1
  replace h2 := h2.1
  replace h3 := h3.1
  replace h6 := h6.1
  replace hl := hl.1
  have hf : confFit l2 l3 z l6 := ⟨by omega, by omega, by omega, by omega, fun x h => by have := hx x h; omega⟩
  have hr : confFitR l2 l3 z l6 := ⟨by omega, by omega, by omega, by omega, fun x h => by have := hx x h; omega⟩
  have ht : tabFit ls := ⟨by omega, fun x h => by have := hy x h; omega⟩
  have htr : tabFitR ls := ⟨by omega, fun x h => by have := hy x h; omega⟩
  have hp : pickFit l2 l3 z l6 ls := ⟨hf, ht⟩
  clear w0 w1 w4 w8 w9
  refine ⟨(l2.length + l3.length + l6.length + ls.length + 30) + 1, ?_⟩
  generalize hK : l2.length + l3.length + l6.length + ls.length + 30 = K
  have ea : ∀ k, 20 ≤ k → pinfoldlaw18_awake.f k = some true := awake_eq
  have e3 := sameconfig_eq (a0 := a0) (a1 := a1) (a4 := a4) (z := z) (l2 := l2) (l3 := l3) (l6 := l6) (by omega) (by omega) (by omega) K (by omega) (by omega) (by omega)
  have sl : ∀ (l : List S42) (k : Nat), l.length ≤ 1048576 → l.length + 1 ≤ k → pinfoldlaw0_SameLeases.f k l l = some true := fun l k h1 h2 => by
    have := samleases_l0 l (by omega) l.length k 0 (by omega) h2
    rw [show ((0 : Nat) : Int) = 0 from rfl] at this
    unfold pinfoldlaw0_SameLeases.f
    rw [if_pos rfl]
    exact this
  have len1 := other_len (a0 := a0) (a1 := a1) (l2 := l2) (l3 := l3) (a4 := a4) (z := z) (l6 := l6) (boundX c now) ls now c host ⟨0, 0, c, now, ⟨#[]⟩, false⟩
  have len2 := other_len (a0 := a0) (a1 := a1) (l2 := l2) (l3 := l3) (a4 := a4) (z := z) (l6 := l6) (holdsX c now) ls now c host ⟨0, 3, ⟨#[]⟩, wrap64 (now + 64), ⟨#[]⟩, false⟩
  obtain ⟨s1, hs1⟩ := spoil_eq _ (show (otherV (boundX c now) a0 a1 l2 l3 a4 z l6 ls now c host ⟨0, 0, c, now, ⟨#[]⟩, false⟩).1.length ≤ 140737488351232 by omega) K (by omega)
  obtain ⟨s2, hs2⟩ := spoil_eq _ (show (otherV (holdsX c now) a0 a1 l2 l3 a4 z l6 ls now c host ⟨0, 3, ⟨#[]⟩, wrap64 (now + 64), ⟨#[]⟩, false⟩).1.length ≤ 140737488351232 by omega) K (by omega)
  have e4 : pinfoldlaw0_KeptLeases.f K ls ls = some true := by
    unfold pinfoldlaw0_KeptLeases.f
    rw [if_pos (by omega)]
    exact sl ls K (by omega) (by omega)
  unfold pinfoldlaw18_Drops.f
  rw [copy_eq (by omega) (by omega) (by omega), Option.bind_some]
  unfold pinfoldlaw0_LendLeases.f
  rw [if_pos (by omega), Option.bind_some]
  dsimp only
  unfold drop_Release.f drop_Decline.f
  rw [if_pos hp, if_pos hp, refrel_eq hr ls htr, refdec_eq hr ls htr]
  simp only [Option.bind_some]
  rw [sl _ (K + 1) (by omega) (by omega), sl _ (K + 1) (by omega) (by omega)]
  simp only [Option.bind_some, if_true, pinfoldlaw0_Num.f, bne_self_eq_false]
  rw [pinfoldlaw18_Drops.j0, if_neg (by decide), hs1, Option.bind_some, hs2, Option.bind_some, e3, Option.bind_some, if_pos rfl, e4, Option.bind_some, if_pos rfl, ea K (by omega)]
  rfl

end Go.Proofs.YtmoobaehoccihaaDoor.Pure
