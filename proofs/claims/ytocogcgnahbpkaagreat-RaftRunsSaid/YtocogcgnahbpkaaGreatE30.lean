/-
  A part of the proof of what E53 says at its head.
-/
import Derived.Test.YtocogcgnahbpkaaGreatE20
import Derived.Test.YtocogcgnahbpkaaGreatE29
namespace Go.SL
open Go.Proofs Go.Proofs.YtocogcgnahbpkaaGreat
open Rs (Nd)
set_option maxRecDepth 10000
attribute [local irreducible] W RS RG RD Fn FnQ OpS QOp Own Sat Rd Gr Mp Rg Lg Ms Es Nod Rp NodI RLg RMs REs RN RLd RNF
section
variable {c : Cfg} {h : RW} {s : Nd} {x : RX} {p : Nat} {q : Bool} {d : Int} {ms : List Rf.Msg} {m : Rf.Msg} {A : Option Addr} {cp : Nat} {l0 : List Rf.Ent} {fl : Nat × Nat}
theorem pers5 {b : Nat} {o : Obj} {A A' B : Option Addr} {cs cs' ds : List Value} : ∀ Q ∈ [Own false b o, Rd false A cs, Rd false A' cs', Rd false B ds], Pers Q := by
  rintro Q (_ | ⟨_, _ | ⟨_, _ | ⟨_, _ | ⟨_, h⟩⟩⟩⟩)
  · exact Pers.own
  · exact Rd.pers
  · exact Rd.pers
  · exact Rd.pers
  · cases h
set_option maxHeartbeats 2000000 in
theorem rmay_t {X : HP} {mes : List LE} (hs : Sn c s) (hf : Fmd c s m) (hr : Rgt c s m) (hX : Reads X A (mes.flatMap encLE)) (hmes : mes.map (·.e) = ents m.idx m.es) : FnQ Tryz.prog 89 [pt p, .agg (encM m A cp).toArray].toArray [RN p c s x ms, X] (.bool true) := by
  refine .rn (.of Tryz.func89 rfl (by kernel_rfl)) fun h hh => ?_
  refine FnQ.pre ?_ (Picks.ent (a := [RLgN h s]) picks)
  refine FnQ.rlg (fun les hles => ?_) (.of Tryz.func89 rfl (by kernel_rfl))
  refine FnQ.pre (Fn.quietD (M := [Rb false p c h s x, Rd false h.oA ((oth c s).flatMap (peerE s)), Rd false h.lA (les.flatMap encLE), Rd false A (mes.flatMap encLE)]) ?_ pers5) ((Picks.sub (a := [Rb true p c h s x, OthG c h s, Gr 3 67 h.lA h.ln h.lc (les.flatMap encLE), X]) picks).trans (lend1.frame.trans (.cons _ ((Ent.of Reads.gr).trans (.cons _ ((Ent.of Reads.gr).trans (.cons _ (.of hX))))))))
  have hsf := hs.fin
  have hn := hs.n
  obtain ⟨i, hyi⟩ := oth_index hf.src
  have hil := (List.getElem?_eq_some_iff.1 hyi).1
  have hO := rother_x (X := Rd false h.oA ((oth c s).flatMap (peerE s))) (x := x) (p := p) (q := false) (c := c) (h := h) (s := s) hn.2 .rd hyi
  have hT := rterm_r (x := x) (p := p) (hh.rm hs) hles (i := s.commit) (by omega)
  have hE : FnQ Tryz.prog 70 [pt p].toArray [Rb false p c h s x] (nv s.log.length) := rend_q (hh.rm hs)
  have hR : Reads (Rd false A (mes.flatMap encLE)) A (mes.flatMap encLE) := .rd
  have hml := les_len hmes
  have hl := hr.lead
  have ha := hr.app
  have hrp := hr.rep
  obtain ⟨⟨k1, k2⟩, hsrc, hdst, ⟨t1, t2⟩, ⟨n1, n2, n3, n4⟩, hlog, hes, hsnap, hrep, hlen, hgoes⟩ := hf
  refine Fn.enter Tryz.func89 rfl (by kernel_rfl) rfl ?_
  refine run ?_
  refine .box fun z => ?_
  refine run ?_
  refine W.plan [2, 7, 23, 28, 33, 38, 45] mixed (by rfl) (by kernel_rfl) ?_
  refine run ?_
  refine .callQ (out_f (a := m.kind) (lo := 1) (hi := 8) (by omega) (by omega)) ?_
  refine run ?_
  refine .callQ hO ?_
  refine run ?_
  refine .callQ (out_f (a := m.term) (lo := 1) (hi := 1099511627776) (by omega) (by omega)) ?_
  refine run ?_
  refine .callQ (out_f (a := m.idx) (lo := 0) (hi := 1099511627776) (by omega) (by omega)) ?_
  refine run ?_
  refine .callQ (out_f (a := m.commit) (lo := 0) (hi := 1099511627776) (by omega) (by omega)) ?_
  refine run ?_
  refine .callQ (out_f (a := m.hint) (lo := 0) (hi := 1099511627776) (by omega) (by omega)) ?_
  refine run ?_
  refine .callQ (out_f (a := m.lt) (lo := 0) (hi := m.term) (by omega) (by omega)) ?_
  have hgo : ∀ k (e : Rf.Ent), m.es[k]? = some e → max (if k = 0 then m.lt else ((m.es[k - 1]?).map (·.term)).getD 0) 1 ≤ e.term ∧ e.term ≤ m.term := fun k e h => goes_at hgoes h
  clear hsrc hdst hgoes hO
  have hkk : m.kind = 1 ∨ m.kind = 3 ∨ m.kind = 5 ∨ m.kind = 7 ∨ m.kind = 6 ∨ (m.kind = 2 ∨ m.kind = 4 ∨ m.kind = 8) := by omega
  have hes0 : m.kind ≠ 5 → m.es.length = 0 := fun h => by rw [hes h]; rfl
  clear hes
  by_cases hz : m.lt = 0
  all_goals
    rcases hkk with hk | hk | hk | hk | hk | hk
    · have h1 := hlog (by omega)
      have h2 := hes0 (by omega)
      refine run ?_
      refine .quiet rfl rfl rfl (Q.neqB rfl rfl rfl Tryz.underlying4) ?_
      refine run ?_
      refine .hit 6 rfl (by congr 1; omega : _ = nv (max m.lt 1)) ?_
      refine W.loopH (ι := Nat) (fun k => k ≤ m.es.length) (fun k => [(0, pt p), (3, pt z), (6, nv (max (if k = 0 then m.lt else ((m.es[k - 1]?).map (·.term)).getD 0) 1)), (7, nv k)])
        (fun k => [Blk true z (encM m A cp) 59, Rb false p c h s x, Rd false h.oA ((oth c s).flatMap (peerE s)), Rd false h.lA (les.flatMap encLE), Rd false A (mes.flatMap encLE)]) (fun k => m.es.length - k) 0 (Nat.zero_le _) subs (Picks.sub picks) ?_
      rintro k hkl ih
      by_cases hlt : k < m.es.length
      · exact absurd hlt (by omega)
      · clear ih
        refine run ?_
        refine W.plan [] mixed (by rfl) (by kernel_rfl) ?_
        refine run ?_
        refine W.plan [29] mixed (by rfl) (by kernel_rfl) ?_
        refine run ?_
        refine W.plan [28] mixed (by rfl) (by kernel_rfl) ?_
        refine run ?_
        exact .retD Tryz.func89
    · have h1 := hlog (by omega)
      have h2 := hes0 (by omega)
      refine run ?_
      refine .quiet rfl rfl rfl (Q.neqB rfl rfl rfl Tryz.underlying4) ?_
      refine run ?_
      refine .hit 6 rfl (by congr 1; omega : _ = nv (max m.lt 1)) ?_
      refine W.loopH (ι := Nat) (fun k => k ≤ m.es.length) (fun k => [(0, pt p), (3, pt z), (6, nv (max (if k = 0 then m.lt else ((m.es[k - 1]?).map (·.term)).getD 0) 1)), (7, nv k)])
        (fun k => [Blk true z (encM m A cp) 59, Rb false p c h s x, Rd false h.oA ((oth c s).flatMap (peerE s)), Rd false h.lA (les.flatMap encLE), Rd false A (mes.flatMap encLE)]) (fun k => m.es.length - k) 0 (Nat.zero_le _) subs (Picks.sub picks) ?_
      rintro k hkl ih
      by_cases hlt : k < m.es.length
      · exact absurd hlt (by omega)
      · clear ih
        refine run ?_
        refine W.plan [] mixed (by rfl) (by kernel_rfl) ?_
        refine run ?_
        refine W.plan [29] mixed (by rfl) (by kernel_rfl) ?_
        refine run ?_
        refine W.plan [28] mixed (by rfl) (by kernel_rfl) ?_
        refine run ?_
        exact .retD Tryz.func89
    · have h1 := hlog (by omega)
      by_cases h0 : m.es.length = 0
      all_goals
        refine run ?_
        refine .quiet rfl rfl rfl (Q.neqB rfl rfl rfl Tryz.underlying4) ?_
        refine run ?_
        refine .hit 6 rfl (by congr 1; omega : _ = nv (max m.lt 1)) ?_
        refine W.loopH (ι := Nat) (fun k => k ≤ m.es.length) (fun k => [(0, pt p), (3, pt z), (6, nv (max (if k = 0 then m.lt else ((m.es[k - 1]?).map (·.term)).getD 0) 1)), (7, nv k)])
          (fun k => [Blk true z (encM m A cp) 59, Rb false p c h s x, Rd false h.oA ((oth c s).flatMap (peerE s)), Rd false h.lA (les.flatMap encLE), Rd false A (mes.flatMap encLE)]) (fun k => m.es.length - k) 0 (Nat.zero_le _) subs (Picks.sub picks) ?_
        rintro k hkl ih
        by_cases hlt : k < m.es.length
        · first
          | exact absurd hlt (by omega)
          | (obtain ⟨en, hen⟩ : ∃ en, m.es[k]? = some en := ⟨_, List.getElem?_eq_getElem hlt⟩
             obtain ⟨y, hy⟩ : ∃ y, mes[k]? = some y := ⟨_, List.getElem?_eq_getElem (by omega)⟩
             obtain ⟨en', he1, he2⟩ := les_at hmes hy
             rw [hen] at he1
             injection he1 with he1
             subst he1
             have hga := hgo k en hen
             generalize hq : max (if k = 0 then m.lt else ((m.es[k - 1]?).map (·.term)).getD 0) 1 = q at hga
             obtain ⟨ye, yA, yc⟩ := y
             dsimp only at he2
             subst he2
             refine W.fact (fun w h => IsA.of (k := k * 3) hR (by exact pick) (by rw [flat_len lenLE]; omega) h) fun hA => ?_
             refine run ?_
             refine .new fun z6 => ?_
             refine RS.hit 115 rfl (rfl : _ = Value.agg [nv (m.idx + k + 1), nv en.term, .slice yA en.data.length yc].toArray) ?_
             refine run ?_
             refine .callQ (out_f (a := en.term) (lo := q) (hi := m.term) (by omega) (by omega)) ?_
             refine run ?_
             have e1 : max (if k + 1 = 0 then m.lt else ((m.es[k + 1 - 1]?).map (·.term)).getD 0) 1 = en.term := by rw [if_neg (by omega), Nat.add_sub_cancel, hen]; show max en.term 1 = _; omega
             have h2 := ih (k + 1) (by omega) (by omega)
             rw [e1] at h2
             exact .back h2)
        · clear ih
          by_cases h1 : m.term = s.term
          · have h2 := hl (.inl hk) h1
            by_cases h6 : s.term ≤ m.term
            · by_cases h7 : m.idx = s.commit
              · have h8 := ha hk h6 h7
                refine run ?_
                refine W.plan [] mixed (by rfl) (by kernel_rfl) ?_
                refine run ?_
                refine W.plan [29] mixed (by rfl) (by kernel_rfl) ?_
                refine run ?_
                refine .callQ hT ?_
                refine run ?_
                refine W.plan [28] mixed (by rfl) (by kernel_rfl) ?_
                refine run ?_
                exact .retD Tryz.func89
              · skip
                refine run ?_
                refine W.plan [] mixed (by rfl) (by kernel_rfl) ?_
                refine run ?_
                refine W.plan [29] mixed (by rfl) (by kernel_rfl) ?_
                refine run ?_
                refine W.plan [28] mixed (by rfl) (by kernel_rfl) ?_
                refine run ?_
                exact .retD Tryz.func89
            · first
              | (exfalso; omega)
              | (refine run ?_
                 refine W.plan [] mixed (by rfl) (by kernel_rfl) ?_
                 refine run ?_
                 refine W.plan [29] mixed (by rfl) (by kernel_rfl) ?_
                 refine run ?_
                 refine W.plan [28] mixed (by rfl) (by kernel_rfl) ?_
                 refine run ?_
                 exact .retD Tryz.func89)
          · skip
            by_cases h6 : s.term ≤ m.term
            · by_cases h7 : m.idx = s.commit
              · have h8 := ha hk h6 h7
                refine run ?_
                refine W.plan [] mixed (by rfl) (by kernel_rfl) ?_
                refine run ?_
                refine W.plan [29] mixed (by rfl) (by kernel_rfl) ?_
                refine run ?_
                refine .callQ hT ?_
                refine run ?_
                refine W.plan [28] mixed (by rfl) (by kernel_rfl) ?_
                refine run ?_
                exact .retD Tryz.func89
              · skip
                refine run ?_
                refine W.plan [] mixed (by rfl) (by kernel_rfl) ?_
                refine run ?_
                refine W.plan [29] mixed (by rfl) (by kernel_rfl) ?_
                refine run ?_
                refine W.plan [28] mixed (by rfl) (by kernel_rfl) ?_
                refine run ?_
                exact .retD Tryz.func89
            · first
              | (exfalso; omega)
              | (refine run ?_
                 refine W.plan [] mixed (by rfl) (by kernel_rfl) ?_
                 refine run ?_
                 refine W.plan [29] mixed (by rfl) (by kernel_rfl) ?_
                 refine run ?_
                 refine W.plan [28] mixed (by rfl) (by kernel_rfl) ?_
                 refine run ?_
                 exact .retD Tryz.func89)
    · have h1 := hlog (by omega)
      have h70 := hsnap hk
      first
      | (exfalso; omega)
      | (have h2 := hes0 (by omega)
         refine run ?_
         refine .quiet rfl rfl rfl (Q.neqB rfl rfl rfl Tryz.underlying4) ?_
         refine run ?_
         have h7 := hsnap hk
         refine .hit 6 rfl (by congr 1; omega : _ = nv (max m.lt 1)) ?_
         refine W.loopH (ι := Nat) (fun k => k ≤ m.es.length) (fun k => [(0, pt p), (3, pt z), (6, nv (max (if k = 0 then m.lt else ((m.es[k - 1]?).map (·.term)).getD 0) 1)), (7, nv k)])
           (fun k => [Blk true z (encM m A cp) 59, Rb false p c h s x, Rd false h.oA ((oth c s).flatMap (peerE s)), Rd false h.lA (les.flatMap encLE), Rd false A (mes.flatMap encLE)]) (fun k => m.es.length - k) 0 (Nat.zero_le _) subs (Picks.sub picks) ?_
         rintro k hkl ih
         by_cases hlt : k < m.es.length
         · exact absurd hlt (by omega)
         · clear ih
           by_cases h1 : m.term = s.term
           · have h2 := hl (.inr hk) h1
             refine run ?_
             refine W.plan [] mixed (by rfl) (by kernel_rfl) ?_
             refine run ?_
             refine W.plan [29] mixed (by rfl) (by kernel_rfl) ?_
             refine run ?_
             refine W.plan [28] mixed (by rfl) (by kernel_rfl) ?_
             refine run ?_
             exact .retD Tryz.func89
           · skip
             refine run ?_
             refine W.plan [] mixed (by rfl) (by kernel_rfl) ?_
             refine run ?_
             refine W.plan [29] mixed (by rfl) (by kernel_rfl) ?_
             refine run ?_
             refine W.plan [28] mixed (by rfl) (by kernel_rfl) ?_
             refine run ?_
             exact .retD Tryz.func89)
    · have h1 : True := trivial
      have h2 := hes0 (by omega)
      refine run ?_
      refine .hit 6 rfl (by congr 1; omega : _ = nv (max m.lt 1)) ?_
      refine W.loopH (ι := Nat) (fun k => k ≤ m.es.length) (fun k => [(0, pt p), (3, pt z), (6, nv (max (if k = 0 then m.lt else ((m.es[k - 1]?).map (·.term)).getD 0) 1)), (7, nv k)])
        (fun k => [Blk true z (encM m A cp) 59, Rb false p c h s x, Rd false h.oA ((oth c s).flatMap (peerE s)), Rd false h.lA (les.flatMap encLE), Rd false A (mes.flatMap encLE)]) (fun k => m.es.length - k) 0 (Nat.zero_le _) subs (Picks.sub picks) ?_
      rintro k hkl ih
      by_cases hlt : k < m.es.length
      · exact absurd hlt (by omega)
      · clear ih
        by_cases hj : m.rej = true
        · have h9 := hrep hk hj
          by_cases h1 : m.term = s.term
          · rcases h9 with h9 | h9
            all_goals
              refine run ?_
              refine RS.hit 155 rfl (by rw [hj] : _ = .bool true) ?_
              refine run ?_
              refine W.plan [] mixed (by rfl) (by kernel_rfl) ?_
              refine run ?_
              refine W.plan [29] mixed (by rfl) (by kernel_rfl) ?_
              refine run ?_
              refine W.plan [28] mixed (by rfl) (by kernel_rfl) ?_
              refine run ?_
              refine RG.hit 242 rfl (by rw [hj]; rfl : _ = .bool false) ?_
              refine run ?_
              exact .retD Tryz.func89
          · rcases h9 with h9 | h9
            all_goals
              refine run ?_
              refine RS.hit 155 rfl (by rw [hj] : _ = .bool true) ?_
              refine run ?_
              refine W.plan [] mixed (by rfl) (by kernel_rfl) ?_
              refine run ?_
              refine W.plan [29] mixed (by rfl) (by kernel_rfl) ?_
              refine run ?_
              refine W.plan [28] mixed (by rfl) (by kernel_rfl) ?_
              refine run ?_
              exact .retD Tryz.func89
        · have hj : m.rej = false := by simpa using hj
          by_cases h1 : m.term = s.term
          · by_cases h2 : s.role = 4
            · have h9 := hrp hk h1 h2 hj
              refine run ?_
              refine RS.hit 155 rfl (by rw [hj] : _ = .bool false) ?_
              refine run ?_
              refine W.plan [] mixed (by rfl) (by kernel_rfl) ?_
              refine run ?_
              refine W.plan [29] mixed (by rfl) (by kernel_rfl) ?_
              refine run ?_
              refine W.plan [28] mixed (by rfl) (by kernel_rfl) ?_
              refine run ?_
              refine RG.hit 242 rfl (by rw [hj]; rfl : _ = .bool true) ?_
              refine run ?_
              refine .callQ hE ?_
              refine run ?_
              exact .retD Tryz.func89
            · skip
              refine run ?_
              refine RS.hit 155 rfl (by rw [hj] : _ = .bool false) ?_
              refine run ?_
              refine W.plan [] mixed (by rfl) (by kernel_rfl) ?_
              refine run ?_
              refine W.plan [29] mixed (by rfl) (by kernel_rfl) ?_
              refine run ?_
              refine W.plan [28] mixed (by rfl) (by kernel_rfl) ?_
              refine run ?_
              refine RG.hit 242 rfl (by rw [hj]; rfl : _ = .bool true) ?_
              refine run ?_
              exact .retD Tryz.func89
          · skip
            refine run ?_
            refine RS.hit 155 rfl (by rw [hj] : _ = .bool false) ?_
            refine run ?_
            refine W.plan [] mixed (by rfl) (by kernel_rfl) ?_
            refine run ?_
            refine W.plan [29] mixed (by rfl) (by kernel_rfl) ?_
            refine run ?_
            refine W.plan [28] mixed (by rfl) (by kernel_rfl) ?_
            refine run ?_
            exact .retD Tryz.func89
    · have h1 : True := trivial
      have h2 := hes0 (by omega)
      refine run ?_
      refine .hit 6 rfl (by congr 1; omega : _ = nv (max m.lt 1)) ?_
      refine W.loopH (ι := Nat) (fun k => k ≤ m.es.length) (fun k => [(0, pt p), (3, pt z), (6, nv (max (if k = 0 then m.lt else ((m.es[k - 1]?).map (·.term)).getD 0) 1)), (7, nv k)])
        (fun k => [Blk true z (encM m A cp) 59, Rb false p c h s x, Rd false h.oA ((oth c s).flatMap (peerE s)), Rd false h.lA (les.flatMap encLE), Rd false A (mes.flatMap encLE)]) (fun k => m.es.length - k) 0 (Nat.zero_le _) subs (Picks.sub picks) ?_
      rintro k hkl ih
      by_cases hlt : k < m.es.length
      · exact absurd hlt (by omega)
      · clear ih
        refine run ?_
        refine W.plan [] mixed (by rfl) (by kernel_rfl) ?_
        refine run ?_
        refine W.plan [29] mixed (by rfl) (by kernel_rfl) ?_
        refine run ?_
        refine W.plan [28] mixed (by rfl) (by kernel_rfl) ?_
        refine run ?_
        exact .retD Tryz.func89
end
end Go.SL
