/-
  SquashPicks: for every policy and every list of runs the law returns true, and its arguments read behind the call as they did.
  No condition.
-/
import Derived.Test.YtgeohmfbodlgeaaRows
import Derived.Test.YtgeohmfbodlgeaaL1
import Derived.ProofKit
import Derived.SizedLaws
import Derived.Deep.Slices
import Derived.Deep.Fields
import Derived.Lib.SmallJoins
namespace Go.Proofs.Ytgeohmfbodlgeaa
open Go.ChangeShapes Go.WideShapes Go.ChangeAt Go.RowKit Go.Deep Go.Joins

theorem own : ownKnob Try.prog.godebug = none := by kernel_rfl
theorem laidOut : laidOutB Try.prog = true := by kernel_rfl
theorem cells31 : Try.prog.cellsOf 31 = 8 := by kernel_rfl
theorem cells23 : Try.prog.cellsOf 23 = 3 := by kernel_rfl
theorem bytes31 : Try.prog.bytesOf 31 = 96 := by kernel_rfl

section
variable {H : Type} {enc : TypeId × Value → H}

theorem slice_value {W : World} {base : Nat} {sp : Nat → Bool} {hd : Bool} {fuel : Nat} {v : Value} {y : DataW H × List MemPlace} (h : DataW.trod enc Try.prog W base sp hd fuel 29 [v] = some y) : ∃ a n c, v = .slice a n c := by
  rcases open_slice Try.underlying29 h with ⟨hcs, _⟩ | ⟨a, len, cap, m, n, D, Pl, hcs, _⟩
  · injection hcs with hcs _; exact ⟨_, _, _, hcs⟩
  · injection hcs with hcs _; exact ⟨_, _, _, hcs⟩
theorem int_value {W : World} {base : Nat} {sp : Nat → Bool} {hd : Bool} {fuel : Nat} {v : Value} {y : DataW H × List MemPlace} (h : DataW.trod enc Try.prog W base sp hd fuel 3 [v] = some y) : ∃ n, v = .int .i64 n ∧ -9223372036854775808 ≤ n ∧ n ≤ 9223372036854775807 := by
  obtain ⟨n, e, _, hw⟩ := DataW.trod_int Try.underlying3 h
  injection e with e _
  have hb := bounds_i64 hw
  exact ⟨n, e, hb.1, hb.2⟩

theorem c3 : Try.prog.cellsOf 3 = 1 := by kernel_rfl
theorem c29 : Try.prog.cellsOf 29 = 1 := by kernel_rfl
theorem run_value {W : World} {base : Nat} {sp : Nat → Bool} {hd : Bool} {fuel : Nat} {cs : List Value} {y : DataW H × List MemPlace} (hl : cs.length = 8) (h : DataW.trod enc Try.prog W base sp hd fuel 31 cs = some y) : ∃ x : RM, x.ok ∧ cs = encRM x := by
  obtain ⟨xs, n, _, _, _, hlen, hg⟩ := DataW.trod_struct Try.underlying31 h
  match cs, hl, xs, hlen, hg with
  | [v0, v1, v2, v3, v4, v5, v6, v7], _, [y0, y1, y2, y3, y4, y5, y6, y7], _, hg =>
    obtain ⟨n0, rfl, a0, b0⟩ := int_value (y := y0) (by simpa [c3] using hg 0 _ rfl)
    obtain ⟨n1, rfl, _, _⟩ := int_value (y := y1) (by simpa [c3] using hg 1 _ rfl)
    obtain ⟨n2, rfl, _, _⟩ := int_value (y := y2) (by simpa [c3] using hg 2 _ rfl)
    obtain ⟨n3, rfl, _, _⟩ := int_value (y := y3) (by simpa [c3] using hg 3 _ rfl)
    obtain ⟨n4, rfl, _, _⟩ := int_value (y := y4) (by simpa [c3] using hg 4 _ rfl)
    obtain ⟨n5, rfl, a5, b5⟩ := int_value (y := y5) (by simpa [c3] using hg 5 _ rfl)
    obtain ⟨a6, m6, k6, rfl⟩ := slice_value (y := y6) (by simpa [c29] using hg 6 _ rfl)
    obtain ⟨a7, m7, k7, rfl⟩ := slice_value (y := y7) (by simpa [c29] using hg 7 _ rfl)
    exact ⟨⟨n0, n1, n2, n3, n4, n5, a6, m6, k6, a7, m7, k7⟩, ⟨a0, b0, a5, b5⟩, rfl⟩

theorem open_runs {W : World} {sp : Nat → Bool} {hd : Bool} {fuel : Nat} {cs : List Value} {x : DataW H × List MemPlace} (h : DataW.trod enc Try.prog W 0 sp hd fuel 24 cs = some x) :
    ∃ (A : Option Addr) (c : Nat) (xs : List RM), cs = [.slice A xs.length c] ∧ Runs W W.heap.size A xs ∧ (∀ x ∈ xs, x.ok) ∧ (xs = [] ∨ ∃ elems spare, x.1 = .slice elems spare ∧ elems.length = xs.length) := by
  rcases open_slice Try.underlying24 h with ⟨hcs, _⟩ | ⟨a, len, cap, m, n, D, Pl, hcs, _, hlc, _, hm, hx, hel⟩
  · exact ⟨none, 0, [], hcs, Row.nil, (by intro x hx; cases hx), .inl rfl⟩
  · have hlm : len ≤ m := by rw [hm]; split <;> omega
    have key : ∀ i : Nat, ∃ x : RM, x.ok ∧ (i < len → ∀ j v, (encRM x)[j]? = some v → W.cell? (a.add (i * 8 + j)) = some v) := by
      intro i
      by_cases hi : i < len
      · obtain ⟨cs', hc, ht⟩ := hel i (by omega)
        rw [cells31] at hc
        obtain ⟨_, hcl, hat⟩ := World.cells?_some hc
        obtain ⟨x, hok, rfl⟩ := run_value hcl ht
        refine ⟨x, hok, fun _ j v hv => ?_⟩
        have hj : j < 8 := by rw [← len_RM x]; exact (List.getElem?_eq_some_iff.1 hv).1
        have := hat j hj
        rw [hv, Go.Deep.add_add] at this
        exact this
      · exact ⟨⟨0, 0, 0, 0, 0, 0, none, 0, 0, none, 0, 0⟩, by simp [RM.ok], fun h => absurd h hi⟩
    let X : Nat → RM := fun i => Classical.choose (key i)
    have hX : ∀ i, (X i).ok ∧ (i < len → ∀ j v, (encRM (X i))[j]? = some v → W.cell? (a.add (i * 8 + j)) = some v) := fun i => Classical.choose_spec (key i)
    have hxl : ((List.range len).map X).length = len := by simp
    refine ⟨some a, cap, (List.range len).map X, by rw [hxl]; exact hcs, ?_, ?_, .inr ⟨_, _, by rw [hx], by simp⟩⟩
    · rcases Nat.eq_zero_or_pos len with h0 | h0
      · subst h0; exact .inl rfl
      · obtain ⟨b, o, spot⟩ := a
        have hc0 := (hX 0).2 h0 0 _ rfl
        have hspot : spot = none := by simpa [Addr.add] using World.cell?_spot hc0
        subst hspot
        have hbl : b < W.heap.size := by
          unfold World.cell? at hc0
          split at hc0
          · next hh => simpa [Addr.add] using (Array.getElem?_eq_some_iff.1 hh).1
          · cases hc0
        refine .inr ⟨b, o, rfl, hbl, fun k y hk j v hv => ?_⟩
        rw [List.getElem?_map] at hk
        have hkl : k < len := by
          rcases Nat.lt_or_ge k len with h | h
          · exact h
          · rw [List.getElem?_eq_none (by simpa using h)] at hk; cases hk
        rw [List.getElem?_range hkl] at hk
        simp only [Option.map_some, Option.some.injEq] at hk
        subst hk
        have := (hX k).2 hkl j v hv
        rw [Addr.add_lit, ← Nat.add_assoc] at this
        exact this
    · intro y hy
      obtain ⟨i, _, rfl⟩ := List.mem_map.1 hy
      exact (hX i).1
end

set_option maxRecDepth 100000 in
theorem picks_lifted (os : Os) (started : os.Started) (H : Type) (enc : TypeId × Value → H) :
    ReturnsInHanded {} Try.checked os 3 .any (Rows.squashPicksSpec.pre6 enc Try.prog Try.f3 Rows.squashPicksRow.domain false) (Rows.squashPicksSpec.post enc Try.prog Try.f3 false true false false) := by
  refine returnsInHanded_of_change_sized (C := Try.checked) own started (by kernel_rfl) Try.func3
    (ChangeSpec.witness6 (enc := enc) (C := Try.checked) false ⟨#[], #[.agg #[.int .i64 0, .int .i64 0, .int .i64 0], .slice none 0 0], []⟩ 8 (by kernel_rfl) (by kernel_rfl) (by kernel_rfl) (by kernel_rfl)) ?_
  intro W base args ds gs before hval0 hW _ hsz0 _
  have hsz : (DataW.weightsEach Try.prog (Try.f3.params.toList ++ Rows.squashPicksSpec.plain.varTypes Try.prog) (ds ++ gs)).all (· ≤ reachBytes) = true := hsz0
  clear hsz0
  have hval : ∀ (j : Nat) t v, Try.f3.params[j]? = some t → args[j]? = some v → Value.okWide Try.prog W .any base t v := hval0
  have hW' := hW
  obtain ⟨p, q, hA0, hV, rfl, _, _⟩ := hW
  have hA : DataW.TrodAll enc Try.prog W 0 (fun _ => true) true Try.f3.params.toList args.toList ds p := hA0
  rw [Try.params3] at hA hval hsz
  obtain ⟨v0, v1, d0, d1, p0, p1, rfl, rfl, rfl, h0, h1⟩ := trodAll_two hA
  obtain ⟨rfl, rfl⟩ := trodVars_none hV
  have h0k := h0
  have h1k := h1
  clear hA0 hval0
  simp only [List.append_nil] at hW'
  have hlt : ∀ x ∈ p0 ++ p1, x.block < W.heap.size := fun x hx => by simpa using hW'.lt x hx
  obtain ⟨c0, c1, c2, y0, y1, y2, m, rfl, _, _, hy0, hy1, hy2⟩ := open_agg3 Try.underlying23 (by kernel_rfl) cells23 (hval 0 23 v0 rfl rfl) h0
  obtain ⟨a, rfl, _, _⟩ := int_value hy0
  obtain ⟨b, rfl, _, _⟩ := int_value hy1
  obtain ⟨d, rfl, _, _⟩ := int_value hy2
  obtain ⟨fuel, hf⟩ := h1
  obtain ⟨A, c, xs, hcs, hrow, hok, hlen⟩ := open_runs hf
  obtain ⟨a0, len0, cap0, rfl⟩ := okWide_slice Try.underlying24 (hval 1 24 v1 rfl rfl)
  simp only [Value.cells] at hcs
  have hcs' : Value.slice a0 len0 cap0 = .slice A xs.length c := by simpa using hcs
  rw [hcs'] at h1k hW' ⊢
  have hbytes : xs.length * 96 ≤ 140737488351232 := by
    rcases hlen with rfl | ⟨elems, spare, hd, hl⟩
    · simp
    · have hreach := sized_slice hsz (j := 1) (t := 24) (e := 31) (elems := elems) (spare := spare) rfl (by show some d1 = _; exact congrArg some hd) Try.underlying24
      rw [bytes31, hl] at hreach
      unfold reachBytes at hreach
      omega
  refine (law_walk a b d A c xs W hrow hbytes hok).mono fun e W' ⟨he, hb⟩ => ?_
  subst he
  exact ⟨_, rfl, _, _, _, [], p0 ++ p1, [], hW', trodAll_mk1 (shut_bool Try.underlying4 _),
    trodAll_mk2 (Below.trod laidOut (by kernel_rfl) (of_decide_eq_true (by kernel_rfl)) h0k hb (fun x hx => hlt x (by simp [hx]))) (Below.trod laidOut (by kernel_rfl) (of_decide_eq_true (by kernel_rfl)) h1k hb (fun x hx => hlt x (by simp [hx]))),
    rfl, hb.frame _, fun h => by cases h⟩

theorem squashPicks_holds : Rows.SquashPicksSaid :=
  OpenClaim.holds_of_wide 3 Try.f3 rfl rfl rfl rfl rfl rfl rfl ⟨rfl, rfl, rfl, rfl, rfl⟩ rfl rfl rfl rfl rfl (by kernel_rfl) Try.func3 (by kernel_rfl)
    (of_decide_eq_true (by kernel_rfl)) (by unfold Func.isWrapper; first | (rw [if_pos (by decide +kernel)]; kernel_rfl) | (rw [if_neg (by decide +kernel)]; exact ⟨rfl, rfl⟩))
    (fun os started H enc _ => picks_lifted os started H enc)
end Go.Proofs.Ytgeohmfbodlgeaa
