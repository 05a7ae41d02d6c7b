/-
  A part of the proof of what E53 says at its head.
-/
import Derived.Test.YtocogcgnahbpkaaGreatE19
namespace Go.SL
open Go.Proofs Go.Proofs.YtocogcgnahbpkaaGreat
open Rs (Nd)
attribute [local irreducible] W RS RG RD Fn FnQ OpS QOp Own Sat Rd Gr Mp Rg Lg Ms Es Nod Rp
set_option maxRecDepth 10000
abbrev fnv (n : Nat) : Value := .func (.func n) #[] #[]
abbrev kindTab : List Value := [.nilFunc, fnv 140, fnv 141, fnv 142, fnv 143, fnv 144, fnv 145, fnv 146, fnv 147]
abbrev stepTab : List Value := [.nilFunc, fnv 72, fnv 73, fnv 74, fnv 75, fnv 76, fnv 77, fnv 78]
section
variable {c : Cfg} {h : HW} {s : Nd} {x : EX} {p bs : Nat} {d : Int} {l0 : List Rf.Ent} {fl : Nat × Nat} {ms : List Rf.Msg} {m : Rf.Msg} {A : Option Addr} {cp : Nat}
theorem newBlk {f : Nat} {ar : Array Value} {z0 : Value → Nat → Prop} {vs : List Value} {E : Nat} (hF : Fn Tryz.prog f ar [] fun v L => ∃ z, z0 v z ∧ L = [Blk true z vs E]) : FnN Tryz.prog f ar [] fun v L => ∃ z, z0 v z ∧ L = [Blk true z vs E] :=
  Fn.new (hF.mono fun v L hL => by
    obtain ⟨z, h1, rfl⟩ := hL
    exact ⟨_, .refl _, [Blk true z vs E], rfl, ⟨z, h1, rfl⟩, fun Q hQ => by rw [List.mem_singleton.1 hQ]; exact Excl.own⟩) (fun Q h => nomatch h)
theorem kinds_n : FnN Tryz.prog 103 #[] [] fun v L => ∃ z, v = .slice (some ⟨z, 0, none⟩) 9 9 ∧ L = [Blk true z kindTab 163] := by
  refine newBlk (z0 := fun v z => v = .slice (some ⟨z, 0, none⟩) 9 9) ?_
  refine Fn.enter (args := []) Tryz.func103 rfl (by kernel_rfl) rfl ?_
  refine run ?_
  refine .lit fun z => ?_
  refine run ?_
  exact .retE Tryz.func103 ⟨z, rfl, rfl⟩
theorem steps_n : FnN Tryz.prog 56 #[] [] fun v L => ∃ z, v = .slice (some ⟨z, 0, none⟩) 8 8 ∧ L = [Blk true z stepTab 129] := by
  refine newBlk (z0 := fun v z => v = .slice (some ⟨z, 0, none⟩) 8 8) ?_
  refine Fn.enter (args := []) Tryz.func56 rfl (by kernel_rfl) rfl ?_
  refine run ?_
  refine .lit fun z => ?_
  refine run ?_
  exact .retE Tryz.func56 ⟨z, rfl, rfl⟩
theorem logged_t {k : Int} (hk : k = 1 ∨ k = 3 ∨ k = 5 ∨ k = 7) : FnQ Tryz.prog 139 [iv k].toArray [] (.bool true) := by
  refine Fn.quietD (M := []) ?_ (fun Q hQ => nomatch hQ)
  refine Fn.enter Tryz.func139 rfl (by kernel_rfl) rfl ?_
  rcases hk with h | h | h | h
  all_goals
    refine run ?_
    exact .retD Tryz.func139
theorem logged_f {k : Int} (hk : ¬ (k = 1 ∨ k = 3 ∨ k = 5 ∨ k = 7)) : FnQ Tryz.prog 139 [iv k].toArray [] (.bool false) := by
  refine Fn.quietD (M := []) ?_ (fun Q hQ => nomatch hQ)
  refine Fn.enter Tryz.func139 rfl (by kernel_rfl) rfl ?_
  refine run ?_
  exact .retD Tryz.func139
def goesP : List Rf.Ent → Nat → Nat → Prop
  | [], _, _ => True
  | e :: r, t, most => max t 1 ≤ e.term ∧ e.term ≤ most ∧ goesP r e.term most
theorem goes_at : ∀ {l : List Rf.Ent} {t most k : Nat} {e : Rf.Ent}, goesP l t most → l[k]? = some e → max (if k = 0 then t else ((l[k - 1]?).map (·.term)).getD 0) 1 ≤ e.term ∧ e.term ≤ most
  | [], _, _, _, _, _, h => by simp at h
  | a :: l, t, most, 0, e, h, he => by simp at he; subst he; exact ⟨h.1, h.2.1⟩
  | a :: l, t, most, 1, e, h, he => by
    have := goes_at (k := 0) h.2.2 (by simpa using he)
    simpa using this
  | a :: l, t, most, k + 2, e, h, he => by
    have := goes_at (k := k + 1) h.2.2 (by simpa using he)
    simpa using this
theorem goes_t {X : HP} {mes : List LE} {idx lt most : Nat} {es : List Rf.Ent} (hX : Reads X A (mes.flatMap encLE)) (hmes : mes.map (·.e) = ents idx es) (hg : goesP es lt most) (hi : idx + es.length ≤ 1099511627776) (hl : es.length ≤ 70000) :
    FnQ Tryz.prog 87 [.slice A es.length cp, nv idx, nv lt, nv most].toArray [X] (.bool true) := by
  refine (Fn.quietD (M := [Rd false A (mes.flatMap encLE)]) ?_ pers3).pre (.of hX)
  have hR : Reads (Rd false A (mes.flatMap encLE)) A (mes.flatMap encLE) := Reads.rd
  have hml := les_len hmes
  refine Fn.enter Tryz.func87 rfl (by kernel_rfl) rfl ?_
  refine run ?_
  refine W.loopH (ι := Nat) (fun k => k ≤ es.length) (fun k => [(1, nv (idx + k)), (2, nv (if k = 0 then lt else ((es[k - 1]?).map (·.term)).getD 0)), (3, nv most), (11, .slice A es.length cp), (12, nv es.length), (13, nv k)])
    (fun k => [Rd false A (mes.flatMap encLE)]) (fun k => es.length - k) 0 (Nat.zero_le _) subs (.refl _) ?_
  rintro k hk ih
  by_cases hlt : k < es.length
  · obtain ⟨en, hen⟩ : ∃ en, es[k]? = some en := ⟨_, List.getElem?_eq_getElem hlt⟩
    obtain ⟨y, hy⟩ : ∃ y, mes[k]? = some y := ⟨_, List.getElem?_eq_getElem (by omega)⟩
    obtain ⟨en', he1, he2⟩ := les_at hmes hy
    rw [hen] at he1
    injection he1 with he1
    subst he1
    have hga := goes_at hg hen
    generalize hq : (if k = 0 then lt else ((es[k - 1]?).map (·.term)).getD 0) = q at hga
    obtain ⟨ye, yA, yc⟩ := y
    dsimp only at he2
    subst he2
    refine W.fact (fun w h => IsA.of (k := k * 3) hR .hd (by rw [flat_len lenLE]; omega) h) fun hA => ?_
    refine run ?_
    refine .new fun z6 => ?_
    refine RS.hit 16 rfl (rfl : _ = Value.agg [nv (idx + k + 1), nv en.term, .slice yA en.data.length yc].toArray) ?_
    refine run ?_
    have e1 : (if k + 1 = 0 then lt else ((es[k + 1 - 1]?).map (·.term)).getD 0) = en.term := by rw [if_neg (by omega), Nat.add_sub_cancel, hen]; rfl
    have h2 := ih (k + 1) (by omega) (by omega)
    rw [e1] at h2
    exact .back h2
  · refine run ?_
    exact .retD Tryz.func87
structure Fmd (c : Cfg) (s : Nd) (m : Rf.Msg) : Prop where
  kind : 1 ≤ m.kind ∧ m.kind ≤ 8
  src : m.src ∈ oth c s
  dst : m.dst = s.id
  term : 1 ≤ m.term ∧ m.term ≤ 1099511627776
  nums : m.idx + m.es.length ≤ 1099511627776 ∧ m.commit ≤ 1099511627776 ∧ m.hint ≤ 1099511627776 ∧ m.lt ≤ m.term
  log : m.kind = 1 ∨ m.kind = 3 ∨ m.kind = 5 ∨ m.kind = 7 → (m.lt = 0 ↔ m.idx = 0)
  es : m.kind ≠ 5 → m.es = []
  snap : m.kind = 7 → m.idx ≠ 0
  rep : m.kind = 6 → m.rej = true → m.hint < m.idx ∨ m.hint + m.idx = 0
  len : m.es.length ≤ 16
  goes : goesP m.es m.lt m.term
structure Rgt (c : Cfg) (s : Nd) (m : Rf.Msg) : Prop where
  lead : m.kind = 5 ∨ m.kind = 7 → m.term = s.term → s.role ≠ 4
  app : m.kind = 5 → s.term ≤ m.term → m.idx = s.commit → m.lt = s.tm s.commit
  rep : m.kind = 6 → m.term = s.term → s.role = 4 → m.rej = false → m.idx ≤ s.log.length
theorem wrong_f (hs : Sn c s) (hr : Rgt c s m) : FnQ Tryz.prog 100 [pt p, .agg (encM m A cp).toArray].toArray [Nod p c bs s x ms] (.bool false) := by
  refine .nod (.of Tryz.func100 rfl (by kernel_rfl)) fun h hh => ?_
  refine FnQ.pre ?_ (Picks.ent (a := [LgN h s]) picks)
  refine FnQ.lg (fun les hles => ?_) (.of Tryz.func100 rfl (by kernel_rfl))
  refine FnQ.pre (Fn.quietD (M := [Nb false p c h s x, Rd false h.lA (les.flatMap encLE)]) ?_ pers2) ((Picks.sub (a := [Nb true p c h s x, Gr 3 67 h.lA h.ln h.lc (les.flatMap encLE)]) picks).trans (lend2 .gr))
  have hsm := hs.at hh
  have hf := hs.fin
  have hT := term_r (x := x) (p := p) hsm hles (i := s.commit) (by omega)
  have hE : FnQ Tryz.prog 57 [pt p].toArray [Nb false p c h s x] (nv s.log.length) := end_q hsm
  refine Fn.enter Tryz.func100 rfl (by kernel_rfl) rfl ?_
  refine run ?_
  refine .box fun z => ?_
  have hl := hr.lead
  have ha := hr.app
  have hrp := hr.rep
  by_cases h1 : m.term = s.term
  case' pos => by_cases h2 : s.role = 4
  all_goals
    refine run ?_
    refine W.plan [] mixed (by rfl) (by kernel_rfl) ?_
    by_cases h5 : m.kind = 5
    · first
      | exact absurd h2 (hl (.inl h5) h1)
      | by_cases h6 : s.term ≤ m.term
        · by_cases h7 : m.idx = s.commit
          · have h8 := ha h5 h6 h7
            refine run ?_
            refine W.plan [30] mixed (by rfl) (by kernel_rfl) ?_
            refine run ?_
            refine .callQ hT ?_
            refine run ?_
            exact .retD Tryz.func100
          · refine run ?_
            refine W.plan [30] mixed (by rfl) (by kernel_rfl) ?_
            refine run ?_
            exact .retD Tryz.func100
        · first
          | (exfalso; omega)
          | (refine run ?_
             refine W.plan [30] mixed (by rfl) (by kernel_rfl) ?_
             refine run ?_
             exact .retD Tryz.func100)
    · by_cases h7 : m.kind = 7
      · first
        | exact absurd h2 (hl (.inr h7) h1)
        | (refine run ?_
           exact .retD Tryz.func100)
      · by_cases h6 : m.kind = 6
        · cases hj : m.rej with
          | true =>
            refine run ?_
            refine W.plan [13] mixed (by rfl) (by kernel_rfl) ?_
            refine run ?_
            first
            | exact .retD Tryz.func100
            | (refine RG.hit 75 rfl (by rw [hj]; rfl : _ = .bool false) ?_
               refine run ?_
               exact .retD Tryz.func100)
          | false =>
            refine run ?_
            refine W.plan [13] mixed (by rfl) (by kernel_rfl) ?_
            refine run ?_
            first
            | exact .retD Tryz.func100
            | (refine RG.hit 75 rfl (by rw [hj]; rfl : _ = .bool true) ?_
               refine run ?_
               have h9 := hrp h6 h1 h2 hj
               refine .callQ hE ?_
               refine run ?_
               exact .retD Tryz.func100)
        · refine run ?_
          exact .retD Tryz.func100
theorem pers4 {b : Nat} {o : Obj} {A A' : Option Addr} {cs cs' : List Value} : ∀ Q ∈ [Own false b o, Rd false A cs, Rd false A' cs'], Pers Q := by
  rintro Q (_ | ⟨_, _ | ⟨_, _ | ⟨_, h⟩⟩⟩)
  · exact Pers.own
  · exact Rd.pers
  · exact Rd.pers
  · cases h
theorem formed_t {X : HP} {mes : List LE} (hs : Sn c s) (hf : Fmd c s m) (hX : Reads X A (mes.flatMap encLE)) (hmes : mes.map (·.e) = ents m.idx m.es) : FnQ Tryz.prog 99 [pt p, .agg (encM m A cp).toArray].toArray [Nod p c bs s x ms, X] (.bool true) := by
  refine .nod (.of Tryz.func99 rfl (by kernel_rfl)) fun h hh => ?_
  refine FnQ.pre (Fn.quietD (M := [Nb false p c h s x, Rd false h.pA ((li (List.range' 1 c.n)).map iv), Rd false A (mes.flatMap encLE)]) ?_ pers4) ((Picks.sub (a := [Nb true p c h s x, PeersG c h, X]) picks).trans (lend1.frame.trans (.cons _ ((Ent.of Reads.gr).trans (.cons _ (.of hX))))))
  have hI : FnQ Tryz.prog 108 [pt p, nv m.src].toArray [Nb false p c h s x, Rd false h.pA ((li (List.range' 1 c.n)).map iv)] (.bool true) := by
    have := isOther_q (XP := Rd false h.pA ((li (List.range' 1 c.n)).map iv)) (c := c) (h := h) (s := s) (x := x) (p := p) (q := false) .rd hs.n.2 (v := m.src)
    rwa [decide_eq_true (li_mem.2 hf.src)] at this
  have hG := goes_t (A := A) (cp := cp) (Reads.rd (q := false)) hmes hf.goes hf.nums.1 (by have := hf.len; omega)
  obtain ⟨⟨k1, k2⟩, hsrc, hdst, ⟨t1, t2⟩, ⟨n1, n2, n3, n4⟩, hlog, hes, hsnap, hrep, hlen, hgoes⟩ := hf
  refine Fn.enter Tryz.func99 rfl (by kernel_rfl) rfl ?_
  refine run ?_
  refine .box fun z => ?_
  refine run ?_
  refine W.plan [1002, 5, 11, 27] mixed (by rfl) (by kernel_rfl) ?_
  refine run ?_
  refine .callN kinds_n (Picks.sub .nil) ?_
  rintro v N ⟨zk, rfl, rfl⟩
  refine run ?_
  refine .callQ (within_t (a := m.kind) (lo := 1) (hi := 8) (by omega) (by omega)) ?_
  refine run ?_
  refine .callQ hI ?_
  refine run ?_
  refine .callQ (within_t (a := m.term) (lo := 1) (hi := 1099511627776) (by omega) (by omega)) ?_
  refine run ?_
  refine .callQ (within_t (a := m.idx) (lo := 0) (hi := 1099511627776) (by omega) (by omega)) ?_
  refine run ?_
  refine .callQ (within_t (a := m.commit) (lo := 0) (hi := 1099511627776) (by omega) (by omega)) ?_
  refine run ?_
  refine .callQ (within_t (a := m.hint) (lo := 0) (hi := 1099511627776) (by omega) (by omega)) ?_
  refine run ?_
  refine .callQ (within_t (a := m.lt) (lo := 0) (hi := m.term) (by omega) (by omega)) ?_
  refine run ?_
  clear n2 n4 t1 t2 hsrc hdst hI hX hmes hgoes
  by_cases h13 : m.kind = 1 ∨ m.kind = 3
  · have h1 := hlog (by omega)
    have h2 := congrArg List.length (hes (by omega))
    simp only [List.length_nil] at h2
    clear hlog hes hsnap hrep
    by_cases hz : m.idx = 0
    all_goals
      refine .callQ (logged_t (k := m.kind) (by omega)) ?_
      refine run ?_
      refine .quiet rfl rfl rfl (Q.neqB rfl rfl rfl Tryz.underlying4) ?_
      refine run ?_
      refine .callQ hG ?_
      refine run ?_
      exact .retD Tryz.func99
  by_cases h5 : m.kind = 5
  · have h1 := hlog (by omega)
    clear hlog hes hsnap hrep
    by_cases hz : m.idx = 0
    all_goals
      refine .callQ (logged_t (k := m.kind) (by omega)) ?_
      refine run ?_
      refine .quiet rfl rfl rfl (Q.neqB rfl rfl rfl Tryz.underlying4) ?_
      refine run ?_
      refine .callQ hG ?_
      refine run ?_
      exact .retD Tryz.func99
  have h2 := congrArg List.length (hes (by omega))
  simp only [List.length_nil] at h2
  by_cases h7 : m.kind = 7
  · have h1 := hlog (by omega)
    have hz := hsnap h7
    clear hlog hes hsnap hrep
    refine .callQ (logged_t (k := m.kind) (by omega)) ?_
    refine run ?_
    refine .quiet rfl rfl rfl (Q.neqB rfl rfl rfl Tryz.underlying4) ?_
    refine run ?_
    refine .callQ hG ?_
    refine run ?_
    exact .retD Tryz.func99
  by_cases h6 : m.kind = 6
  · have hr := hrep h6
    clear hlog hes hsnap hrep
    refine .callQ (logged_f (k := m.kind) (by omega)) ?_
    refine run ?_
    cases hj : m.rej with
    | false =>
      refine run ?_
      refine .callQ hG ?_
      refine run ?_
      exact .retD Tryz.func99
    | true =>
      rcases hr hj with hr | hr
      all_goals
        refine run ?_
        refine .callQ hG ?_
        refine run ?_
        exact .retD Tryz.func99
  clear hlog hes hsnap hrep
  refine .callQ (logged_f (k := m.kind) (by omega)) ?_
  refine run ?_
  refine .callQ hG ?_
  refine run ?_
  exact .retD Tryz.func99
end
end Go.SL
namespace Go.SL
open Go.Proofs Go.Proofs.YtocogcgnahbpkaaGreat
open Rs (Nd)
attribute [local irreducible] W RS RG RD Fn FnQ OpS QOp Own Sat Rd Gr Mp Rg Lg Ms Es Nod Rp
set_option maxRecDepth 10000
section
variable {c : Cfg} {h : HW} {s : Nd} {x : EX} {p bs : Nat} {d : Int} {l0 : List Rf.Ent} {fl : Nat × Nat} {ms : List Rf.Msg} {m : Rf.Msg} {A : Option Addr} {cp : Nat}
theorem appendReply_0 (hr : s.role ≠ 4) : Fn Tryz.prog 145 [pt p, .agg (encM m A cp).toArray].toArray [NodS p c bs d l0 fl s ms] (Det (.tuple #[]) [NodS p c bs d l0 fl s ms]) := by
  refine Fn.enter Tryz.func145 rfl (by kernel_rfl) rfl ?_
  refine run ?_
  refine .box fun z => ?_
  refine run ?_
  refine .first (NodS p c bs d l0 fl s ms) ?_
  refine .nod fun h hh => ?_
  refine run ?_
  refine .shutS (l0 := l0) h h s s hh ?_
  exact .retD Tryz.func145
structure Hok (c : Cfg) (s : Nd) (m : Rf.Msg) (X D : HP) (A : Option Addr) (cp : Nat) (mes : List LE) : Prop where
  sn : Sn c s
  log : s.log.length < 65536
  term : s.term < 1099511627776
  mterm : m.term < 1099511627776
  gr : s.gr.length ≤ 1000
  rf : s.rf.length ≤ 1000
  ld : s.role = 4 → Ld c s ∧ (m.kind = 6 → m.term = s.term → m.rej = false → m.idx ≤ s.log.length)
  fmd : Fmd c s m
  X : Reads X A (mes.flatMap encLE)
  D : DRead D mes
  es : mes.map (·.e) = ents m.idx m.es
  dat : ∀ e ∈ m.es, e.data.length ≤ 140737488351232
  cap : mes.length ≤ cp
theorem frameD {f : Nat} {ar : Array Value} {v : Value} {M N X D : HP} (h : Fn Tryz.prog f ar [M] (Det v [N])) : Fn Tryz.prog f ar [M, X, D] (Det v [N, X, D]) :=
  (h.frame (.cons .hd .nil)).mono fun v L hL => by
    obtain ⟨_, ⟨rfl, rfl⟩, rfl⟩ := hL
    exact ⟨_, .refl _, rfl, rfl⟩
theorem kind_n {X D : HP} {mes : List LE} (H : Hok c s m X D A cp mes) (ht : m.kind = 6 → s.role = 4 → m.term = s.term) (hm : ms.length ≤ 300) : Fn Tryz.prog (139 + m.kind) [pt p, .agg (encM m A cp).toArray].toArray [NodS p c bs d s.log fl s ms, X, D]
    (Det (.tuple #[]) [NodS p c bs d s.log fl (Rs.kinds c d m s).1 (ms ++ (Rs.kinds c d m s).2), X, D]) := by
  obtain ⟨⟨k1, k2⟩, hsrc, hdst, ⟨t1, t2⟩, ⟨n1, n2, n3, n4⟩, hlog, hes, hsnap, hrep, hlen, hgoes⟩ := H.fmd
  have hsl := oth_le hsrc
  have hn := H.sn.n
  have h8 : m.kind = 1 ∨ m.kind = 2 ∨ m.kind = 3 ∨ m.kind = 4 ∨ m.kind = 5 ∨ m.kind = 6 ∨ m.kind = 7 ∨ m.kind = 8 := by omega
  have hk : ∀ k, m.kind = k → Rs.kinds c d m s = match k with
    | 1 => Rs.preVote m s
    | 2 => Rs.preReply c d m s
    | 3 => Rs.vote c d m s
    | 4 => Rs.voteReply c d m s
    | 5 => Rs.append c d m s
    | 6 => Rs.appendReply c m s
    | 7 => Rs.snapshot c d m s
    | 8 => Rs.takeOver c d m s
    | _ => (s, []) := fun k h => by unfold Rs.kinds; rw [h]; rfl
  rcases h8 with h8 | h8 | h8 | h8 | h8 | h8 | h8 | h8
  · rw [hk 1 h8, h8]; exact frameD (preVote_n H.sn (by omega))
  · rw [hk 2 h8, h8]; exact frameD (preReply_n H.sn hm (by omega) H.gr H.log H.term)
  · rw [hk 3 h8, h8]; exact frameD (vote_n H.sn hm)
  · rw [hk 4 h8, h8]; exact frameD (voteReply_n H.sn hm (by omega) H.gr H.rf H.log)
  · rw [hk 5 h8, h8]; exact append_n H.sn hm t2 ⟨n2, by omega⟩ H.X H.D H.es H.dat (fun h => (hlog (by omega)).2 h) n1 H.cap
  · by_cases hr : s.role = 4
    · rw [hk 6 h8, h8]; exact frameD (appendReply_n H.sn hm hr hsrc (H.ld hr).1 ((H.ld hr).2 h8 (ht h8 hr)) ⟨by omega, n3⟩)
    · have e : Rs.kinds c d m s = (s, []) := by rw [hk 6 h8]; exact if_pos hr
      rw [e, h8]; dsimp only; rw [List.append_nil]
      exact frameD (appendReply_0 hr)
  · rw [hk 7 h8, h8]; exact frameD (snapshot_n H.sn hm t2)
  · rw [hk 8 h8, h8]; exact frameD (takeOver_n H.sn hm H.log H.term)
theorem kindTab_at {k : Nat} (h : 1 ≤ k ∧ k ≤ 8) : kindTab[k]? = some (fnv (139 + k)) := by
  have h8 : k = 1 ∨ k = 2 ∨ k = 3 ∨ k = 4 ∨ k = 5 ∨ k = 6 ∨ k = 7 ∨ k = 8 := by omega
  rcases h8 with h8 | h8 | h8 | h8 | h8 | h8 | h8 | h8 <;> (subst h8; rfl)
theorem message_n {e : EV} {X D : HP} {mes : List LE} (H : Hok c s e.m X D e.A e.c mes) (hr : Rgt c s e.m) (hm : ms.length ≤ 300) : Fn Tryz.prog 73 [pt p, .agg (encV e).toArray].toArray [NodS p c bs d s.log fl s ms, X, D]
    (Det (iv 0) [NodS p c bs d s.log fl (Rs.message c d e.m s).1 (ms ++ (Rs.message c d e.m s).2), X, D]) := by
  obtain ⟨k1, k2⟩ := H.fmd.kind
  have hmt := H.mterm
  have hst := H.term
  unfold Rs.message
  have hF := formed_t (cp := e.c) (x := ⟨d, ms.length, fr s.log s.log, fl.1, fl.2⟩) (p := p) (bs := bs) (ms := ms) H.sn H.fmd H.X H.es
  have hW := wrong_f (x := ⟨d, ms.length, fr s.log s.log, fl.1, fl.2⟩) (p := p) (bs := bs) (ms := ms) (A := e.A) (cp := e.c) H.sn hr
  have hH : ∀ l, Hok c (Rs.follow c d e.m.term l s) e.m X D e.A e.c mes := fun l => ⟨H.sn.mk H.sn.id (by show max s.term e.m.term ≤ _; omega) H.sn.fin H.sn.data ⟨by show 0 ≤ _; omega, H.sn.el.2⟩, H.log, by show max s.term e.m.term < _; omega, hmt, H.gr, H.rf, fun h => absurd (show (1 : Nat) = 4 from h) (by omega), ⟨H.fmd.kind, H.fmd.src, H.fmd.dst, H.fmd.term, H.fmd.nums, H.fmd.log, H.fmd.es, H.fmd.snap, H.fmd.rep, H.fmd.len, H.fmd.goes⟩, H.X, H.D, H.es, H.dat, H.cap⟩
  refine Fn.enter Tryz.func73 rfl (by kernel_rfl) rfl ?_
  refine run ?_
  refine .box fun z => ?_
  refine run ?_
  refine .quiet rfl rfl rfl (Q.loadPart (vs := encM e.m e.A e.c) rfl rfl rfl rfl pick rfl rfl) ?_
  refine .new fun z5 => ?_
  refine run ?_
  refine .callQ hF ?_
  refine run ?_
  refine .callQ hW ?_
  refine run ?_
  refine .first (NodS p c bs d s.log fl s ms) ?_
  refine .nod fun h hh => ?_
  by_cases hT : s.term < e.m.term
  · refine W.plan [] mixed (by rfl) (by kernel_rfl) ?_
    by_cases ha : e.m.kind = 1 ∨ (e.m.kind = 3 ∧ e.m.hint = 0)
    · by_cases h1 : e.m.kind = 1
      case' pos => refine run ?_
      case' neg =>
        obtain ⟨h3, h4⟩ := ha.resolve_left h1
        refine run ?_
      all_goals
        refine .callQ (led_q (c := c) (h := h) (s := s) (x := ⟨d, ms.length, fr s.log s.log, fl.1, fl.2⟩) (p := p) (q := true)) ?_
        cases hl : Rs.led c s
        case true =>
          rw [if_pos ⟨ha, hT, rfl⟩]
          refine run ?_
          refine .shutS (l0 := s.log) h h s s hh ?_
          dsimp only; rw [List.append_nil]
          exact .retD Tryz.func73
      · rw [if_neg (by simp)]
        refine run ?_
        refine .shutS (l0 := s.log) h h s s hh ?_
        rw [if_pos (⟨hT, h1, .inl (by omega)⟩), if_neg (by omega)]
        refine .callD (follow_n (x := ⟨d, ms.length, fr s.log s.log, fl.1, fl.2⟩) (s := s) (c := c) (p := p) (term := e.m.term) (leader := 0) (ms := ms) (bs := bs) H.sn) ?_
        refine run ?_
        refine W.first (NodS p c bs d s.log fl (Rs.follow c d e.m.term (0) s) ms) ?_
        refine W.plan [1000] mixed (by rfl) (by kernel_rfl) ?_
        refine run ?_
        refine .callN kinds_n (Picks.sub .nil) ?_
        rintro v N ⟨zk, rfl, rfl⟩
        refine run ?_
        refine RG.take rfl rfl rfl rfl (Q.load (v := fnv (139 + e.m.kind)) rfl rfl rfl rfl pick (by rw [Nat.zero_add, Nat.mul_one]; exact kindTab_at ⟨k1, k2⟩)) ?_ rfl
        refine run ?_
        refine .callD (kind_n (s := Rs.follow c d e.m.term (0) s) (m := e.m) (A := e.A) (cp := e.c) (X := X) (D := D) (mes := mes) (p := p) (bs := bs) (d := d) (fl := fl) (ms := ms) (hH _) (fun _ h => absurd (show (1 : Nat) = 4 from h) (by omega)) hm) ?_
        refine run ?_
        exact .retD Tryz.func73
      · rw [if_neg (by simp), if_neg (fun hc => hc.2.1 h1)]
        refine run ?_
        rw [if_neg (by omega)]
        refine W.plan [] mixed (by rfl) (by kernel_rfl) ?_
        refine run ?_
        refine .shutS (l0 := s.log) h h s s hh ?_
        refine W.plan [1000] mixed (by rfl) (by kernel_rfl) ?_
        refine run ?_
        refine .callN kinds_n (Picks.sub .nil) ?_
        rintro v N ⟨zk, rfl, rfl⟩
        refine run ?_
        refine RG.take rfl rfl rfl rfl (Q.load (v := fnv (139 + e.m.kind)) rfl rfl rfl rfl pick (by rw [Nat.zero_add, Nat.mul_one]; exact kindTab_at ⟨k1, k2⟩)) ?_ rfl
        refine run ?_
        refine .callD (kind_n (s := s) (m := e.m) (A := e.A) (cp := e.c) (X := X) (D := D) (mes := mes) (p := p) (bs := bs) (d := d) (fl := fl) (ms := ms) (H) (fun h6 _ => by omega) hm) ?_
        refine run ?_
        exact .retD Tryz.func73
    · rw [if_neg (fun hc => ha hc.1)]
      have h1 : e.m.kind ≠ 1 := fun hc => ha (.inl hc)
      have h3 : e.m.kind = 3 → e.m.hint ≠ 0 := fun hc hd => ha (.inr ⟨hc, hd⟩)
      by_cases h2 : e.m.kind = 2
      · refine run ?_
        by_cases hj : e.m.rej = true
        · refine W.hit 50 rfl (by rw [hj] : _ = .bool true) ?_
          refine run ?_
          refine .shutS (l0 := s.log) h h s s hh ?_
          rw [if_pos (⟨hT, h1, .inr (by first | rfl | exact hj)⟩), if_neg (by omega)]
          refine .callD (follow_n (x := ⟨d, ms.length, fr s.log s.log, fl.1, fl.2⟩) (s := s) (c := c) (p := p) (term := e.m.term) (leader := 0) (ms := ms) (bs := bs) H.sn) ?_
          refine run ?_
          refine W.first (NodS p c bs d s.log fl (Rs.follow c d e.m.term (0) s) ms) ?_
          refine W.plan [1000] mixed (by rfl) (by kernel_rfl) ?_
          refine run ?_
          refine .callN kinds_n (Picks.sub .nil) ?_
          rintro v N ⟨zk, rfl, rfl⟩
          refine run ?_
          refine RG.take rfl rfl rfl rfl (Q.load (v := fnv (139 + e.m.kind)) rfl rfl rfl rfl pick (by rw [Nat.zero_add, Nat.mul_one]; exact kindTab_at ⟨k1, k2⟩)) ?_ rfl
          refine run ?_
          refine .callD (kind_n (s := Rs.follow c d e.m.term (0) s) (m := e.m) (A := e.A) (cp := e.c) (X := X) (D := D) (mes := mes) (p := p) (bs := bs) (d := d) (fl := fl) (ms := ms) (hH _) (fun _ h => absurd (show (1 : Nat) = 4 from h) (by omega)) hm) ?_
          refine run ?_
          exact .retD Tryz.func73
        · have hj' : e.m.rej = false := by simpa using hj
          rw [if_neg (fun hc => by rcases hc.2.2 with h | h; · exact h h2
                                   · exact hj h)]
          refine W.hit 50 rfl (by rw [hj'] : _ = .bool false) ?_
          refine run ?_
          rw [if_neg (by omega)]
          refine W.plan [] mixed (by rfl) (by kernel_rfl) ?_
          refine run ?_
          refine .shutS (l0 := s.log) h h s s hh ?_
          refine W.plan [1000] mixed (by rfl) (by kernel_rfl) ?_
          refine run ?_
          refine .callN kinds_n (Picks.sub .nil) ?_
          rintro v N ⟨zk, rfl, rfl⟩
          refine run ?_
          refine RG.take rfl rfl rfl rfl (Q.load (v := fnv (139 + e.m.kind)) rfl rfl rfl rfl pick (by rw [Nat.zero_add, Nat.mul_one]; exact kindTab_at ⟨k1, k2⟩)) ?_ rfl
          refine run ?_
          refine .callD (kind_n (s := s) (m := e.m) (A := e.A) (cp := e.c) (X := X) (D := D) (mes := mes) (p := p) (bs := bs) (d := d) (fl := fl) (ms := ms) (H) (fun h6 _ => by omega) hm) ?_
          refine run ?_
          exact .retD Tryz.func73
      · by_cases h5 : e.m.kind = 5 ∨ e.m.kind = 7
        · by_cases h5' : e.m.kind = 5
          all_goals
            refine run ?_
            refine .shutS (l0 := s.log) h h s s hh ?_
            rw [if_pos (⟨hT, h1, .inl h2⟩), if_pos (by omega)]
            refine .callD (follow_n (x := ⟨d, ms.length, fr s.log s.log, fl.1, fl.2⟩) (s := s) (c := c) (p := p) (term := e.m.term) (leader := e.m.src) (ms := ms) (bs := bs) H.sn) ?_
            refine run ?_
            refine W.first (NodS p c bs d s.log fl (Rs.follow c d e.m.term (e.m.src) s) ms) ?_
            refine W.plan [1000] mixed (by rfl) (by kernel_rfl) ?_
            refine run ?_
            refine .callN kinds_n (Picks.sub .nil) ?_
            rintro v N ⟨zk, rfl, rfl⟩
            refine run ?_
            refine RG.take rfl rfl rfl rfl (Q.load (v := fnv (139 + e.m.kind)) rfl rfl rfl rfl pick (by rw [Nat.zero_add, Nat.mul_one]; exact kindTab_at ⟨k1, k2⟩)) ?_ rfl
            refine run ?_
            refine .callD (kind_n (s := Rs.follow c d e.m.term (e.m.src) s) (m := e.m) (A := e.A) (cp := e.c) (X := X) (D := D) (mes := mes) (p := p) (bs := bs) (d := d) (fl := fl) (ms := ms) (hH _) (fun _ h => absurd (show (1 : Nat) = 4 from h) (by omega)) hm) ?_
            refine run ?_
            exact .retD Tryz.func73
        · by_cases h3' : e.m.kind = 3
          all_goals
            refine run ?_
            refine .shutS (l0 := s.log) h h s s hh ?_
            rw [if_pos (⟨hT, h1, .inl h2⟩), if_neg (by omega)]
            refine .callD (follow_n (x := ⟨d, ms.length, fr s.log s.log, fl.1, fl.2⟩) (s := s) (c := c) (p := p) (term := e.m.term) (leader := 0) (ms := ms) (bs := bs) H.sn) ?_
            refine run ?_
            refine W.first (NodS p c bs d s.log fl (Rs.follow c d e.m.term (0) s) ms) ?_
            refine W.plan [1000] mixed (by rfl) (by kernel_rfl) ?_
            refine run ?_
            refine .callN kinds_n (Picks.sub .nil) ?_
            rintro v N ⟨zk, rfl, rfl⟩
            refine run ?_
            refine RG.take rfl rfl rfl rfl (Q.load (v := fnv (139 + e.m.kind)) rfl rfl rfl rfl pick (by rw [Nat.zero_add, Nat.mul_one]; exact kindTab_at ⟨k1, k2⟩)) ?_ rfl
            refine run ?_
            refine .callD (kind_n (s := Rs.follow c d e.m.term (0) s) (m := e.m) (A := e.A) (cp := e.c) (X := X) (D := D) (mes := mes) (p := p) (bs := bs) (d := d) (fl := fl) (ms := ms) (hH _) (fun _ h => absurd (show (1 : Nat) = 4 from h) (by omega)) hm) ?_
            refine run ?_
            exact .retD Tryz.func73
  · rw [if_neg (fun hc => hT hc.2.1), if_neg (fun hc => hT hc.1)]
    refine W.plan [] mixed (by rfl) (by kernel_rfl) ?_
    have key : e.m.kind = 1 ∨ (e.m.kind = 3 ∧ e.m.hint = 0) ∨ (e.m.kind = 3 ∧ e.m.hint ≠ 0) ∨ (e.m.kind ≠ 1 ∧ e.m.kind ≠ 3) := by omega
    by_cases hO : e.m.term < s.term
    · rw [if_pos hO]
      rcases key with h1 | ⟨h1, h2⟩ | ⟨h1, h2⟩ | ⟨h1, h2⟩
      all_goals
        refine run ?_
        refine W.plan [] mixed (by rfl) (by kernel_rfl) ?_
        refine run ?_
        refine .shutS (l0 := s.log) h h s s hh ?_
        refine .callD (old_n (s := s) (m := e.m) (A := e.A) (cp := e.c) (p := p) (c := c) (bs := bs) (d := d) (l0 := s.log) (fl := fl) (ms := ms) (by omega)) ?_
        refine run ?_
        exact .retD Tryz.func73
    · rcases key with h1 | ⟨h1, h2⟩ | ⟨h1, h2⟩ | ⟨h1, h2⟩
      all_goals
        refine run ?_
        rw [if_neg (by omega)]
        refine W.plan [] mixed (by rfl) (by kernel_rfl) ?_
        refine run ?_
        refine .shutS (l0 := s.log) h h s s hh ?_
        refine W.plan [1000] mixed (by rfl) (by kernel_rfl) ?_
        refine run ?_
        refine .callN kinds_n (Picks.sub .nil) ?_
        rintro v N ⟨zk, rfl, rfl⟩
        refine run ?_
        refine RG.take rfl rfl rfl rfl (Q.load (v := fnv (139 + e.m.kind)) rfl rfl rfl rfl pick (by rw [Nat.zero_add, Nat.mul_one]; exact kindTab_at ⟨k1, k2⟩)) ?_ rfl
        refine run ?_
        refine .callD (kind_n (s := s) (m := e.m) (A := e.A) (cp := e.c) (X := X) (D := D) (mes := mes) (p := p) (bs := bs) (d := d) (fl := fl) (ms := ms) (H) (fun h6 _ => by omega) hm) ?_
        refine run ?_
        exact .retD Tryz.func73
end
end Go.SL
