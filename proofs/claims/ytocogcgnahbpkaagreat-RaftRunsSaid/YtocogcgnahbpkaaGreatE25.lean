/-
  A part of the proof of what E53 says at its head.
-/
import Derived.Test.YtocogcgnahbpkaaGreatE17
import Derived.Test.YtocogcgnahbpkaaGreatE24
namespace Go.SL
open Go.Proofs Go.Proofs.YtocogcgnahbpkaaGreat
open Rs (Nd)
set_option maxRecDepth 10000
attribute [local irreducible] W RS RG RD Fn FnQ OpS QOp Own Sat Rd Gr Mp Rg Lg Ms Es Nod Rp NodI RLg RMs REs RN
section
variable {c : Cfg} {h : RW} {s : Nd} {x : RX} {p : Nat} {q : Bool} {d : Int} {ms : List Rf.Msg} {m : Rf.Msg} {A : Option Addr} {cp : Nat} {l0 : List Rf.Ent} {fl : Nat × Nat}
theorem rbegin_n (hs : Sn c s) (hm : ms.length ≤ 300) (hr : s.log.length < 65536) (ht : s.term < 1099511627776) (hh0 : s.heir = 0) : Fn Tryz.prog 115 [pt p, iv d].toArray [RNS p c s.log fl s ms]
    (Det (.tuple #[]) [RNS p c s.log fl (Rs.begin_ c d s).1 (ms ++ (Rs.begin_ c d s).2)]) := by
  rw [begin_eq]
  have hf := hs.fin
  have hn := hs.n
  have hol := oth_len (c := c) (s := s) hn.2
  have hs1 : Sn c (begin1 c d s) := hs.begin1
  have hoe : (oth c (begin1 c d s)).length = (oth c s).length := rfl
  have hst : Rs.stuck (Rs.rest c d s) = Rs.stuck s := rfl
  have he1 : begin1 c d s = { Rs.rest c d { s with role := 2, leader := 0 } with gr := [s.id] } := by
    cases s; simp only at hh0; subst hh0; rfl
  rw [hst]
  refine Fn.enter Tryz.func115 rfl (by kernel_rfl) rfl ?_
  refine .rn fun h hh => ?_
  refine run ?_
  refine .callQ (rstuck_q (x := rxS ms.length (snL ms).length (fr s.log s.log) fl) (p := p) (q := true) (hh.rm hs)) ?_
  cases hst : Rs.stuck s with
  | true =>
    rw [if_pos rfl]
    refine run ?_
    refine .callD (rrest_ok (c := c) (h := h) (x := rxS ms.length (snL ms).length (fr s.log s.log) fl) (s := s) hs.cf) ?_
    refine run ?_
    dsimp only; rw [List.append_nil]
    refine .rshut h (Rs.rest c d s) (rxS ms.length (snL ms).length (fr s.log s.log) fl) hh ?_
    exact .retD Tryz.func115
  | false =>
    rw [if_neg (by simp)]
    refine run ?_
    refine .callD (rrest_ok (c := c) (h := h) (x := rxS ms.length (snL ms).length (fr s.log s.log) fl) (s := { s with role := 2, leader := 0 }) hs.cf) ?_
    refine run ?_
    refine .lit fun z => ?_
    refine run ?_
    refine .ent ((Picks.ent (a := [Blk true z [nv s.id] 3]) picks).trans (Ent.of (Y := Gr 1 3 (some ⟨z, 0, none⟩) 1 1 [nv s.id]) fun r hr => Gr.of_blk hr rfl (by decide))) ?_
    refine .rshut (ms := ms) (c := c) (p := p) { h with gA := some ⟨z, 0, none⟩, gc := 1 } { Rs.rest c d { s with role := 2, leader := 0 } with gr := [s.id] } (rxS ms.length (snL ms).length (fr s.log s.log) fl) hh ?_
    rw [← he1]
    clear he1 hh
    refine .first (RNS p c s.log fl (begin1 c d s) ms) ?_
    refine .rn fun h hh => ?_
    refine .callQ (v := .bool (Rs.maj c 1)) (many_q (p := p) (c := c) (h := h) (s := begin1 c d s) (x := rxS ms.length (snL ms).length (fr s.log s.log) fl) (q := true) 1 (by omega)) ?_
    refine .rshut h (begin1 c d s) (rxS ms.length (snL ms).length (fr s.log s.log) fl) hh ?_
    cases hj : Rs.maj c 1 with
    | true =>
      rw [if_pos rfl]
      refine run ?_
      refine .callD (rstand_n (hint := 0) (d := d) (s := begin1 c d s) (c := c) (p := p) (fl := fl) (ms := ms) hs1 hm hr ht rfl) ?_
      refine run ?_
      exact .retD Tryz.func115
    | false =>
      rw [if_neg (by simp)]
      refine run ?_
      refine W.loopH (ι := Nat) (fun k => k ≤ (oth c s).length) (fun k => [(0, pt p), (4, nv k)])
        (fun k => [RNS p c s.log fl (begin1 c d s) (ms ++ ((oth c s).take k).map (preM (begin1 c d s)))]) (fun k => (oth c s).length - k) 0 (Nat.zero_le _) subs (by rw [List.take_zero, List.map_nil, List.append_nil]; exact Picks.sub picks) ?_
      intro k hk ih
      refine .rn fun h hh => ?_
      have hRO := othR (c := c) (h := h) (s := begin1 c d s)
      by_cases hlt : k < (oth c s).length
      · obtain ⟨y, hy⟩ : ∃ y, (oth c (begin1 c d s))[k]? = some y := ⟨_, List.getElem?_eq_getElem hlt⟩
        have hte : (begin1 c d s).term = s.term := rfl
        have hE : ∀ x, FnQ Tryz.prog 70 [pt p].toArray [Rb true p c h (begin1 c d s) x] (nv s.log.length) := fun x => rend_q (s := begin1 c d s) (RwOk.rm hh hs1)
        have hT : ∀ x, FnQ Tryz.prog 120 [pt p, nv s.log.length].toArray [RLgN h (begin1 c d s), Rb true p c h (begin1 c d s) x] (nv (s.tm s.log.length)) := fun x => rterm_q (s := begin1 c d s) (RwOk.rm hh hs1) (i := s.log.length) (by show s.snap ≤ _ ∧ _ ≤ s.log.length; omega)
        refine W.fact (fun w h' => IsA.of (k := k * 4) hRO (by exact pick) (by rw [flat_len peerE_len]; show k * 4 < (oth c s).length * 4; omega) h') fun hA => ?_
        refine run ?_
        refine W.plan [15, 18, 19] mixed (by rfl) (by kernel_rfl) ?_
        refine run ?_
        refine .callQ (hE _) ?_
        refine run ?_
        refine .callQ (hE _) ?_
        refine .callQ (hT _) ?_
        refine run ?_
        refine .rshut h (begin1 c d s) (rxS (ms ++ ((oth c s).take k).map (preM (begin1 c d s))).length (snL (ms ++ ((oth c s).take k).map (preM (begin1 c d s)))).length (fr s.log s.log) fl) hh ?_
        refine .ent (Ent.mk (X := RLg none 0 0 s.log.length []) fun r => RLg.nil) ?_
        refine .callD (rsay_n (c := c) (l0 := s.log) (fl := fl) (ms := ms ++ ((oth c s).take k).map (preM (begin1 c d s))) (s := begin1 c d s) (m := { kind := 1, src := 0, dst := y, term := s.term + 1, idx := s.log.length, lt := s.tm s.log.length }) (A := none) (cp := 0) (by rw [List.length_append, List.length_map, List.length_take]; omega) (by show (1 : Nat) ≠ 7; omega)) ?_
        have e : ms ++ ((oth c s).take (k + 1)).map (preM (begin1 c d s)) = ms ++ ((oth c s).take k).map (preM (begin1 c d s)) ++ [rsaid (begin1 c d s) { kind := 1, src := 0, dst := y, term := s.term + 1, idx := s.log.length, lt := s.tm s.log.length }] := by
          rw [List.take_add_one, show (oth c s)[k]? = some y from hy, List.map_append, List.append_assoc]; rfl
        have h2 := ih (k + 1) hlt (by omega)
        rw [e] at h2
        refine run ?_
        exact .back h2
      · have hk : k = (oth c s).length := by omega
        subst hk
        rw [List.take_length]
        refine run ?_
        refine .rshut h (begin1 c d s) (rxS (ms ++ (oth c s).map (preM (begin1 c d s))).length (snL (ms ++ (oth c s).map (preM (begin1 c d s)))).length (fr s.log s.log) fl) hh ?_
        exact .doneD Tryz.func115
def HdOk (c : Cfg) (s : Nd) : Prop := ((oth c s).filter (· ∈ s.hd)).length = s.hd.length
theorem rtick_n (hs : Sn c s) (hl : Ldr c s) (hH : s.role = 4 → HdOk c s) (hh0 : s.role ≠ 4 → s.heir = 0) (hm : ms.length ≤ 300) (hr : s.log.length < 65536) (ht : s.term < 1099511627776) (he : s.elapsed < 1099511627776 ∧ s.beat < 1099511627776) : Fn Tryz.prog 88 [pt p, iv d].toArray [RNS p c s.log fl s ms]
    (Det (.tuple #[]) [RNS p c s.log fl (Rs.tick c d s).1 (ms ++ (Rs.tick c d s).2)]) := by
  rw [tick_eq]
  have hf := hs.fin
  have hn := hs.n
  have hcf := hs.cf
  have hol := oth_len (c := c) (s := s) hn.2
  have hs1 : Sn c (tk1 s) := Sn.el' hs rfl rfl rfl rfl rfl ⟨by show s.elapsed + 1 ≤ _; omega, hs.el.2⟩
  refine Fn.enter Tryz.func88 rfl (by kernel_rfl) rfl ?_
  refine .rn fun h hh => ?_
  by_cases h0 : s.role = 4
  · rw [if_neg (by simpa using h0)]
    obtain ⟨hld, hhd⟩ := hl h0
    have hHd : ((oth c s).filter (· ∈ s.hd)).length = s.hd.length := hH h0
    have hs2 : Sn c (tk2 s) := Sn.el' hs rfl rfl rfl rfl rfl ⟨by show s.elapsed + 1 ≤ _; omega, by show s.beat + 1 ≤ _; omega⟩
    by_cases h1 : c.most ≤ s.elapsed + 1
    · rw [if_pos h1]
      refine run ?_
      refine W.plan [] mixed (by rfl) (by kernel_rfl) ?_
      refine run ?_
      refine W.loopH (ι := Nat) (fun k => k ≤ (oth c s).length) (fun k => [(0, pt p), (1, iv d), (4, nv (1 + (((oth c s).take k).filter (· ∈ s.hd)).length)), (5, nv k)])
        (fun k => [Rb true p c h { tk2 s with elapsed := 0, heir := 0 } (rxS ms.length (snL ms).length (fr s.log s.log) fl), RLgN h s, OthG c h s, GraG h s, RefG h s, RMs h.mA ms.length h.mc ms, SnpG h (rxS ms.length (snL ms).length (fr s.log s.log) fl) ms]) (fun k => (oth c s).length - k) 0 (Nat.zero_le _) subs (Picks.sub picks) ?_
      intro k hk ih
      have hRO := othR (c := c) (h := h) (s := s)
      have hfl := List.length_filter_le (fun q => decide (q ∈ s.hd)) ((oth c s).take k)
      rw [List.length_take] at hfl
      have hoe : (oth c { tk2 s with elapsed := 0, heir := 0 }).length = (oth c s).length := rfl
      by_cases hlt : k < (oth c s).length
      · obtain ⟨y, hy⟩ : ∃ y, (oth c s)[k]? = some y := ⟨_, List.getElem?_eq_getElem hlt⟩
        have htk : (oth c s).take (k + 1) = (oth c s).take k ++ [y] := by rw [List.take_add_one, hy]; rfl
        refine W.fact (fun w h' => IsA.of (k := k * 4) hRO (by exact pick) (by rw [flat_len peerE_len]; omega) h') fun hA => ?_
        by_cases h2 : y ∈ s.hd
        · refine run ?_
          refine W.hit 70 rfl (by rw [decide_eq_true h2] : _ = .bool true) ?_
          refine run ?_
          have h3 := ih (k + 1) hlt (by omega)
          rw [htk, List.filter_append, List.filter_cons_of_pos (by simpa using h2), List.filter_nil, List.length_append] at h3
          exact .back h3
        · refine run ?_
          refine W.hit 70 rfl (by rw [decide_eq_false h2] : _ = .bool false) ?_
          refine run ?_
          have h3 := ih (k + 1) hlt (by omega)
          rw [htk, List.filter_append, List.filter_cons_of_neg (by simpa using h2), List.filter_nil, List.append_nil] at h3
          exact .back h3
      · have hk : k = (oth c s).length := by omega
        subst hk
        rw [List.take_length] at hfl ⊢
        rw [hHd]
        refine run ?_
        refine .callQ (v := .bool (Rs.maj c (1 + s.hd.length))) (many_q (p := p) (c := c) (h := h) (s := { tk2 s with elapsed := 0, heir := 0 }) (x := rxS ms.length (snL ms).length (fr s.log s.log) fl) (q := true) (1 + s.hd.length) (by omega)) ?_
        cases hj : Rs.maj c (1 + s.hd.length) with
        | true =>
          rw [if_pos rfl]
          refine run ?_
          have hs3 : Sn c (tk3 s) := Sn.el' hs rfl rfl rfl rfl rfl ⟨by show 0 ≤ _; omega, by show s.beat + 1 ≤ _; omega⟩
          refine W.loopH (ι := Nat) (fun k => k ≤ (oth c s).length) (fun k => [(0, pt p), (1, iv d), (6, nv k)])
            (fun k => [Gr 4 136 h.oA (oth c s).length h.oc (rowK c s (tk3 s) k), Rb true p c h { tk2 s with elapsed := 0, heir := 0 } (rxS ms.length (snL ms).length (fr s.log s.log) fl), RLgN h s, GraG h s, RefG h s, RMs h.mA ms.length h.mc ms, SnpG h (rxS ms.length (snL ms).length (fr s.log s.log) fl) ms]) (fun k => (oth c s).length - k) 0 (Nat.zero_le _) subs (Picks.sub picks) ?_
          intro k hk ih
          have hRK : Reads (Gr 4 136 h.oA (oth c s).length h.oc (rowK c s (tk3 s) k)) h.oA (rowK c s (tk3 s) k) := .gr
          have hrl := rowK_len (c := c) (s := s) (s' := tk3 s) hk
          by_cases hlt : k < (oth c s).length
          · obtain ⟨y, hy⟩ : ∃ y, (oth c s)[k]? = some y := ⟨_, List.getElem?_eq_getElem hlt⟩
            refine W.fact (fun w h' => IsA.of (k := k * 4) hRK (by exact pick) (by rw [hrl]; omega) h') fun hA => ?_
            refine run ?_
            refine RS.det0 rfl rfl (O.storeRow (k := k * 4 + 3) (v := .bool false) rfl rfl rfl rfl rfl rfl pick (by rw [hrl]; omega)) ?_
            have h3 := ih (k + 1) hlt (by omega)
            rw [rowK_set (v := .bool false) hy (by omega : 3 < 4) (by show [nv y, nv (s.mt y), nv (s.nx y), Value.bool (decide (y ∈ []))] = _; simp [peerE])] at h3
            refine run ?_
            exact .back h3
          · have hk : k = (oth c s).length := by omega
            subst hk
            rw [rowK_all]
            unfold tkE
            by_cases h2 : c.beat ≤ s.beat + 1
            · rw [if_pos (by exact h2)]
              refine run ?_
              refine W.plan [] mixed (by rfl) (by kernel_rfl) ?_
              refine run ?_
              refine W.hit 109 rfl (by rw [decide_eq_true (by show (c.beat : Int) ≤ ((s.beat + 1 : Nat) : Int); omega)] : _ = .bool true) ?_
              refine run ?_
              refine .rshut (ms := ms) (c := c) (p := p) h { tk3 s with beat := 0 } (rxS ms.length (snL ms).length (fr s.log s.log) fl) hh ?_
              refine .callD (rsendAll_n (s := { tk3 s with beat := 0 }) (fl := fl) (l0 := s.log) (ms := ms) (Sn.el' (s' := { tk3 s with beat := 0 }) hs3 rfl rfl rfl rfl rfl ⟨by show 0 ≤ _; omega, by show 0 ≤ _; omega⟩) (by omega) hld) ?_
              refine run ?_
              exact .doneD Tryz.func88
            · rw [if_neg (by exact h2)]
              refine run ?_
              refine W.plan [] mixed (by rfl) (by kernel_rfl) ?_
              refine run ?_
              refine W.hit 109 rfl (by rw [decide_eq_false (by show ¬ (c.beat : Int) ≤ ((s.beat + 1 : Nat) : Int); omega)] : _ = .bool false) ?_
              refine run ?_
              refine .rshut (ms := ms) (c := c) (p := p) h (tk3 s) (rxS ms.length (snL ms).length (fr s.log s.log) fl) hh ?_
              dsimp only; rw [List.append_nil]
              exact .doneD Tryz.func88
        | false =>
          rw [if_neg (by simp)]
          refine run ?_
          refine .callD (rfollow_ok (c := c) (h := h) (s := { tk2 s with elapsed := 0, heir := 0 }) (x := rxS ms.length (snL ms).length (fr s.log s.log) fl) (p := p) (term := s.term) (leader := 0) (Sn.el' (s' := { tk2 s with elapsed := 0, heir := 0 }) hs rfl rfl rfl rfl rfl ⟨by show 0 ≤ _; omega, by show s.beat + 1 ≤ _; omega⟩)) ?_
          refine run ?_
          refine .rshut (ms := ms) (c := c) (p := p) h (Rs.follow c d s.term 0 { tk2 s with elapsed := 0 }) (rxS ms.length (snL ms).length (fr s.log s.log) fl) hh ?_
          dsimp only; rw [List.append_nil]
          exact .retD Tryz.func88
    · rw [if_neg h1]
      unfold tkE
      by_cases h2 : c.beat ≤ s.beat + 1
      · rw [if_pos (by exact h2)]
        refine run ?_
        refine W.plan [] mixed (by rfl) (by kernel_rfl) ?_
        refine run ?_
        refine W.plan [] mixed (by rfl) (by kernel_rfl) ?_
        refine run ?_
        refine .rshut (ms := ms) (c := c) (p := p) h { tk2 s with beat := 0 } (rxS ms.length (snL ms).length (fr s.log s.log) fl) hh ?_
        refine .callD (rsendAll_n (s := { tk2 s with beat := 0 }) (fl := fl) (l0 := s.log) (ms := ms) (Sn.el' (s' := { tk2 s with beat := 0 }) hs2 rfl rfl rfl rfl rfl ⟨by show s.elapsed + 1 ≤ _; omega, by show 0 ≤ _; omega⟩) (by omega) hld) ?_
        refine run ?_
        exact .doneD Tryz.func88
      · rw [if_neg (by exact h2)]
        refine run ?_
        refine W.plan [] mixed (by rfl) (by kernel_rfl) ?_
        refine run ?_
        refine W.plan [] mixed (by rfl) (by kernel_rfl) ?_
        refine run ?_
        refine .rshut (ms := ms) (c := c) (p := p) h (tk2 s) (rxS ms.length (snL ms).length (fr s.log s.log) fl) hh ?_
        dsimp only; rw [List.append_nil]
        exact .doneD Tryz.func88
  · rw [if_pos (by simpa using h0)]
    by_cases h1 : s.timeout ≤ s.elapsed + 1
    · rw [if_pos h1]
      refine run ?_
      refine W.plan [] mixed (by rfl) (by kernel_rfl) ?_
      refine run ?_
      refine .rshut (ms := ms) (c := c) (p := p) h (tk1 s) (rxS ms.length (snL ms).length (fr s.log s.log) fl) hh ?_
      refine .callD (rbegin_n (s := tk1 s) (d := d) (fl := fl) (c := c) (p := p) (ms := ms) hs1 hm hr ht (hh0 h0)) ?_
      refine run ?_
      exact .retD Tryz.func88
    · rw [if_neg h1]
      refine run ?_
      refine W.plan [] mixed (by rfl) (by kernel_rfl) ?_
      refine run ?_
      refine .rshut (ms := ms) (c := c) (p := p) h (tk1 s) (rxS ms.length (snL ms).length (fr s.log s.log) fl) hh ?_
      dsimp only; rw [List.append_nil]
      exact .retD Tryz.func88
end
end Go.SL
namespace Go.SL
open Go.Proofs Go.Proofs.YtocogcgnahbpkaaGreat
open Rs (Nd)
set_option maxRecDepth 10000
def RLd (A : Option Addr) (i : Nat) (l : List Rf.Ent) : HP := fun r => ∃ les : List LE, les.map (·.e) = ents i l ∧ Stars [Rd false A (les.flatMap encLE), Ds les] r
theorem RLd.close {A : Option Addr} {i : Nat} {l : List Rf.Ent} {les : List LE} {L : List HP} (h : les.map (·.e) = ents i l) : Ent (Rd false A (les.flatMap encLE) :: Ds les :: L) (RLd A i l :: L) :=
  (Ent.unstar (l := [_, _])).trans (.of fun _ hr => ⟨les, h, hr⟩)
theorem Sat.rld {w : World} {A : Option Addr} {i : Nat} {l : List Rf.Ent} {L : List HP} (h : Sat w (RLd A i l :: L)) : ∃ les : List LE, les.map (·.e) = ents i l ∧ Sat w (Rd false A (les.flatMap encLE) :: Ds les :: L) := by
  obtain ⟨r, a, r1, r2, x, y, z, ⟨les, h1, h2⟩, v⟩ := h
  have : Sat w (Stars [Rd false A (les.flatMap encLE), Ds les] :: L) := ⟨r, a, r1, r2, x, y, z, h2, v⟩
  exact ⟨les, h1, this.ent .star⟩
theorem W.rld {P : Program} {n' f : Nat} {e : Env} {L : List HP} {R : Fin} {k : List Item} {ds : List Deferred} {A : Option Addr} {i : Nat} {l : List Rf.Ent} (h : ∀ les : List LE, les.map (·.e) = ents i l → W P f n' R k e ds (Rd false A (les.flatMap encLE) :: Ds les :: L)) : W P f n' R k e ds (RLd A i l :: L) :=
  fun F b cs t w h1 h2 h3 h4 => let ⟨les, e1, e2⟩ := Sat.rld h4; h les e1 F b cs t w h1 h2 h3 e2
theorem RLg.lend {A : Option Addr} {n c i : Nat} {l : List Rf.Ent} {r : Res} (h : RLg A n c i l r) : RLd A i l r := by
  obtain ⟨les, h1, h2⟩ := h
  refine ⟨les, h1, ?_⟩
  obtain ⟨r1, r2, a, b, s1, g, r3, r4, a', b', s2, d, t⟩ := h2
  exact ⟨r1, r2, a, b, s1, g.rd.lend, r3, r4, a', b', s2, d, t⟩
theorem RLg.cap {A : Option Addr} {n c i : Nat} {l : List Rf.Ent} {r : Res} (h : RLg A n c i l r) : n ≤ c := by
  obtain ⟨les, h1, r1, r2, a, b, s1, ⟨g1, g2⟩, t⟩ := h
  rcases g2 with ⟨rfl, rfl⟩ | ⟨_, _, _, _, h, _⟩ <;> omega
def RNF (p : Nat) (c : Cfg) (s : Nd) (x : RX) (ms : List Rf.Msg) : HP := fun r => ∃ h : RW, (RwOk s h ∧ h.ln ≤ h.lc) ∧ Stars [Rb true p c h s x, RLd h.lA s.snap (s.log.drop s.snap), OthG c h s, GraG h s, RefG h s, RMs h.mA x.mn h.mc ms, SnpG h x ms] r
section
variable {P : Program} {n f : Nat} {e : Env} {L L' : List HP} {R : Fin} {k : List Item} {ds : List Deferred} {c : Cfg} {h : RW} {s : Nd} {p : Nat} {x : RX} {ms : List Rf.Msg} {v : Value} {ar : Array Value} {ops : Array Oper} {rest : List Oper} {C : Env → List HP → Prop} {l0 : List Rf.Ent} {fl : Nat × Nat}
theorem W.rnf (H : ∀ h, (RwOk s h ∧ h.ln ≤ h.lc) → W P f n R k e ds (Rb true p c h s x :: RLd h.lA s.snap (s.log.drop s.snap) :: OthG c h s :: GraG h s :: RefG h s :: RMs h.mA x.mn h.mc ms :: SnpG h x ms :: L)) : W P f n R k e ds (RNF p c s x ms :: L) :=
  .ex fun h => .pur fun hh => .ent (Ent.star (l := [_, _, _, _, _, _, _])) (H h hh)
theorem RNF.shut (h : RW) (s : Nd) (hh : RwOk s h ∧ h.ln ≤ h.lc) (hp : Picks [Rb true p c h s x, RLd h.lA s.snap (s.log.drop s.snap), OthG c h s, GraG h s, RefG h s, RMs h.mA x.mn h.mc ms, SnpG h x ms] L L') : Ent L (RNF p c s x ms :: L') :=
  hp.ent.trans ((Ent.unstar (l := [_, _, _, _, _, _, _])).trans ((Ent.pur (X := Stars [Rb true p c h s x, RLd h.lA s.snap (s.log.drop s.snap), OthG c h s, GraG h s, RefG h s, RMs h.mA x.mn h.mc ms, SnpG h x ms]) hh).trans (Ent.exi (q := fun h => fun r => (RwOk s h ∧ h.ln ≤ h.lc) ∧ Stars [Rb true p c h s x, RLd h.lA s.snap (s.log.drop s.snap), OthG c h s, GraG h s, RefG h s, RMs h.mA x.mn h.mc ms, SnpG h x ms] r) h)))
theorem W.rnfshut (h : RW) (s : Nd) (x : RX) (hh : RwOk s h ∧ h.ln ≤ h.lc) (hn : W P f n R k e ds (RNF p c s x ms :: L')) (hp : Picks [Rb true p c h s x, RLd h.lA s.snap (s.log.drop s.snap), OthG c h s, GraG h s, RefG h s, RMs h.mA x.mn h.mc ms, SnpG h x ms] L L' := by exact picks) : W P f n R k e ds L := .ent (RNF.shut h s hh hp) hn
theorem RN.nf {r : Res} (h : RN p c s x ms r) : RNF p c s x ms r := by
  obtain ⟨h, hh, r1, r2, a, b, s1, g, r3, r4, a', b', s2, d, t⟩ := h
  exact ⟨h, ⟨hh, d.cap⟩, r1, r2, a, b, s1, g, r3, r4, a', b', s2, d.lend, t⟩
end
attribute [local irreducible] W RS RG RD Fn FnQ OpS QOp Own Sat Rd Gr Mp Rg Lg Ms Es Nod Rp NodI RLg RMs REs RN RLd RNF
section
variable {c : Cfg} {h : RW} {s : Nd} {x : RX} {p : Nat} {q : Bool} {d : Int} {ms : List Rf.Msg} {m : Rf.Msg} {A : Option Addr} {cp : Nat} {l0 : List Rf.Ent} {fl : Nat × Nat}
theorem rpropose_ok {l : List LB} {X D : HP} {dA : Option Addr} {dc : Nat} (hs : Sn c s) (hl : LdN c s) (hX : Reads X dA (l.map vB)) (hD : DReadB D l) (hr : s.role = 4) (hh0 : s.heir = 0) (hk : 1 ≤ l.length ∧ l.length ≤ 16) (hf : s.log.length + l.length < 65536) (hd : ∀ b ∈ l, b.data.length ≤ 140737488351232) (hm : ms.length ≤ 300) :
    Fn Tryz.prog 91 [pt p, .slice dA l.length dc].toArray [RNS p c s.log fl s ms, X, D]
    (Det (iv 0) [RNS p c s.log (s.log.length + 1, s.log.length + l.length) (Rs.propose c (l.map (·.data)) s).1 (ms ++ (Rs.propose c (l.map (·.data)) s).2), X, D]) := by
  rw [propose_eq]
  have hsf := hs.fin
  refine Fn.enter Tryz.func91 rfl (by kernel_rfl) rfl ?_
  refine run ?_
  refine .first (RNS p c s.log fl s ms) ?_
  refine .rn fun h hh => ?_
  have hln := hh.1
  have hE : FnQ Tryz.prog 70 [pt p].toArray [Rb true p c h s (rxS ms.length (snL ms).length (fr s.log s.log) fl)] (nv s.log.length) := rend_q (hh.rm hs)
  refine run ?_
  refine .callQ hE ?_
  refine run ?_
  refine .callQ hE ?_
  refine run ?_
  refine .rshut (ms := ms) (c := c) (p := p) h s (rxS ms.length (snL ms).length (fr s.log s.log) (s.log.length + 1, fl.2)) hh ?_
  refine W.loopH (ι := Nat) (fun k => k ≤ l.length) (fun k => [(0, pt p), (1, .slice dA l.length dc), (5, nv k)])
    (fun k => [RNS p c s.log (s.log.length + 1, fl.2) (upN s (newE s (l.take k))) ms, X, D]) (fun k => l.length - k) 0 (Nat.zero_le _) subs (by rw [show upN s (newE s (l.take 0)) = s by simp [newE, upN]]; exact Picks.sub picks) ?_
  intro k hk ih
  have hlk : (newE s (l.take k)).length = k := by unfold newE; rw [List.length_map, List.length_take]; omega
  have hdk : ∀ n, ∀ e ∈ newE s (l.take n), e.data.length ≤ 140737488351232 := fun n e he => by
    unfold newE at he
    obtain ⟨b, hb, rfl⟩ := List.mem_map.1 he
    exact hd b (List.mem_of_mem_take hb)
  have hsk : Sn c (upN s (newE s (l.take k))) := hs.up (by omega) (by omega) (hdk k)
  have hlog : (upN s (newE s (l.take k))).log.length = s.log.length + k := by show (s.log ++ _).length = _; rw [List.length_append, hlk]
  by_cases hlt : k < l.length
  · obtain ⟨y, hy⟩ : ∃ y, l[k]? = some y := ⟨_, List.getElem?_eq_getElem hlt⟩
    have hym := List.mem_of_getElem? hy
    have hyd := hd y hym
    have hnk : newE s (l.take (k + 1)) = newE s (l.take k) ++ [⟨s.term, y.data⟩] := by unfold newE; rw [List.take_add_one, hy, List.map_append]; rfl
    refine .first X ?_
    refine W.fact (fun w h => IsA.of (k := k) hX .hd (by simpa using hlt) h) fun hA => ?_
    refine run ?_
    refine .quiet rfl rfl rfl (R.load (v := vB y) rfl rfl rfl rfl hX pick (by rw [Nat.mul_one]; simp [hy])) ?_
    refine run ?_
    refine .ent (Ent.mk (X := Gr 1 5 none 0 0 []) fun r => .nil) ?_
    refine .push (sz := 1) (nn := 0) (m := y.data.length) (Src.pick rfl rfl (.tl (.tl .hd)) (fun r hr => hD r hr y hym) (by simp) rfl (allBc _)) fun A2 c2 => ?_
    simp only [Nat.zero_add, List.nil_append]
    refine run ?_
    have e1 : upN (upN s (newE s (l.take k))) [⟨s.term, y.data⟩] = upN s (newE s (l.take (k + 1))) := by rw [upN_upN, ← hnk]
    refine .callD (rjoin_n (s := upN s (newE s (l.take k))) (l0 := s.log) (c := c) (p := p) (ms := ms) (fl := (s.log.length + 1, fl.2)) (d := y.data) (dA := A2) (dc := c2) (D := Gr 1 5 A2 y.data.length c2 (y.data.map bc)) hsk .gr (by rw [hlog]; show s.log.length + k - s.snap + 1 ≤ _; omega) (by rw [hlog]; omega) (by
      show fj (fr s.log (s.log ++ newE s (l.take k))) (s.log ++ newE s (l.take k)).length _ = fr s.log (s.log ++ newE s (l.take k) ++ _)
      rw [fj_fr, List.append_assoc])) ?_
    rw [show (upN s (newE s (l.take k))).term = s.term from rfl, e1]
    refine run ?_
    exact .back (ih (k + 1) hlt (by omega))
  · have hkl : k = l.length := by omega
    have hkk : l.take k = l := by rw [hkl, List.take_length]
    rw [hkk] at hsk hlog ⊢
    refine run ?_
    refine .first (RNS p c s.log (s.log.length + 1, fl.2) (upN s (newE s l)) ms) ?_
    refine .rn fun h hh => ?_
    have hE : FnQ Tryz.prog 70 [pt p].toArray [Rb true p c h (upN s (newE s l)) (rxS ms.length (snL ms).length (fr s.log (upN s (newE s l)).log) (s.log.length + 1, fl.2))] (nv (s.log.length + k)) := by rw [← hlog]; exact rend_q (hh.rm hsk)
    refine .callQ hE ?_
    refine run ?_
    rw [hkl]
    refine .rshut (ms := ms) (c := c) (p := p) h (upN s (newE s l)) (rxS ms.length (snL ms).length (fr s.log (upN s (newE s l)).log) (s.log.length + 1, s.log.length + l.length)) hh ?_
    refine .callD (rcount_n (s := upN s (newE s l)) (p := p) (c := c) (ms := ms) (x := ⟨ms.length, (snL ms).length, fr s.log (upN s (newE s l)).log, s.log.length + 1, s.log.length + l.length⟩) hsk) ?_
    refine run ?_
    refine .callD (rsendAll_n (s := Rs.count c (upN s (newE s l))) (p := p) (c := c) (l0 := s.log) (fl := (s.log.length + 1, s.log.length + l.length)) (ms := ms) hsk.count (by omega) (fun y hy => ⟨(hl y hy).1, by have := (hl y hy).2; show s.nx y ≤ (upN s (newE s l)).log.length + 1; omega⟩)) ?_
    refine run ?_
    exact .retD Tryz.func91
theorem rpropose_e {l : List LB} {dA : Option Addr} {dc : Nat} (hs : Sn c s) (hk : l.length ≤ 140737488351232) (hr : Rs.refuse (l.map (·.data)) s ≠ 0) :
    Fn Tryz.prog 91 [pt p, .slice dA l.length dc].toArray [RNS p c l0 fl s ms] (Det (nv (Rs.refuse (l.map (·.data)) s)) [RNS p c l0 fl s ms]) := by
  have hsf := hs.fin
  unfold Rs.refuse at hr ⊢
  rw [List.length_map] at hr ⊢
  refine Fn.enter Tryz.func91 rfl (by kernel_rfl) rfl ?_
  refine .rn fun h hh => ?_
  have hln := hh.1
  have hE : FnQ Tryz.prog 70 [pt p].toArray [Rb true p c h s (rxS ms.length (snL ms).length (fr l0 s.log) fl)] (nv s.log.length) := rend_q (hh.rm hs)
  by_cases h1 : 1 ≤ l.length ∧ l.length ≤ 16
  · rw [if_neg (by simpa using h1)] at hr ⊢
    by_cases h2 : s.role ≠ 4
    · rw [if_pos h2]
      refine run ?_
      refine .rshut h s (rxS ms.length (snL ms).length (fr l0 s.log) fl) hh ?_
      exact .retD Tryz.func91
    · rw [if_neg h2] at hr ⊢
      by_cases h3 : s.heir ≠ 0
      · rw [if_pos h3]
        refine run ?_
        refine .rshut h s (rxS ms.length (snL ms).length (fr l0 s.log) fl) hh ?_
        exact .retD Tryz.func91
      · rw [if_neg h3] at hr ⊢
        refine run ?_
        refine .callQ hE ?_
        by_cases h4 : 1099511627776 < s.fin + l.length
        · rw [if_pos h4]
          have h4' : 1099511627776 < s.log.length + l.length := h4
          refine run ?_
          refine .rshut h s (rxS ms.length (snL ms).length (fr l0 s.log) fl) hh ?_
          exact .retD Tryz.func91
        · rw [if_neg h4] at hr ⊢
          have h4' : ¬ 1099511627776 < s.log.length + l.length := h4
          by_cases h5 : 65536 < s.fin - s.snap + l.length
          · rw [if_pos h5]
            have h5' : 65536 < s.log.length - s.snap + l.length := h5
            refine run ?_
            refine .rshut h s (rxS ms.length (snL ms).length (fr l0 s.log) fl) hh ?_
            exact .retD Tryz.func91
          · rw [if_neg h5] at hr
            exact absurd rfl hr
  · rw [if_pos (by simpa using h1)]
    by_cases h2 : l.length < 1
    all_goals
      refine run ?_
      refine .rshut h s (rxS ms.length (snL ms).length (fr l0 s.log) fl) hh ?_
      exact .retD Tryz.func91
end
end Go.SL
