import Derived.Test.YtocogcgnahbpkaaGreatC26
namespace Go.Proofs.YtocogcgnahbpkaaGreat
open Go.RowKit
section
variable {w w1 w2:World} {F G:Nat→Prop} {b:Nat} {cf:Rf.Cfg} {draw:Int} {l0:List Rf.Ent} {p:Rf.Nd} {ms:List Rf.Msg}
set_option maxHeartbeats 1000000 in
theorem lclone_any (A:Option Addr) (n c:Nat) (xs:List LE) (w:World) (hx:Row encLE 3 w w.heap.size A xs) (hl:n=xs.length) (hn:xs.length≤1000000) :
  Calls Tryz.prog 149 #[.slice A n c] w fun e w'=>∃ v,e=.returned v∧Own encLE 3 67 w' w.heap.size v xs∧Below w.heap.size w w':=by
 subst hl
 have q:∀ (w:World) (a:Option Addr) (n c n' c':Nat),(binOp .eql 46 (.slice a n c) (.slice none n' c')).run Tryz.prog w=.ok (.bool a.isNone) w:=fun w a n c n' c'=>Lib.run_eql_slice_nil w _ _ a n c n' c' Tryz.underlying46
 rcases A with _ | a
 ·have:xs=[]:=by
   rcases hx with h | ⟨b,o,h,_⟩
   ·exact h
   ·cases h
  subst this
  go_enter Tryz.func149,Tryz.ntmps149
  go_wp2
  go_ret
  exact ⟨_,rfl,Own.nil,Below.refl _ _⟩
 ·have hmade:Own encLE 3 67 (w.alloc (.cells #[] 67)) w.heap.size (.slice (some ⟨w.heap.size,0,none⟩) 0 0) []:=World.ownsRow_made w #[] 0 (Nat.le_refl _) (Nat.zero_le _) (by simp)
  have hx':Row encLE 3 (w.alloc (.cells #[] 67)) w.heap.size (some a) xs:=hx.alloc (Nat.le_refl _) _
  go_enter Tryz.func149,Tryz.ntmps149
  go_wp2_with (at_builtin;refine wp_app _ encLE 3 rfl _ _ 46 rfl w.heap.size 67 40 Tryz.underlying46 info67 (by omega) len_LE one_LE (.slice (some ⟨w.heap.size,0,none⟩) 0 0) [] rfl hmade w.heap.size (some a) _ _ xs rfl rfl hx' (by simp;omega) (by simp;omega) (by simp) ?_;intro v1 w1 hown1 hg1 hat1 _)
  go_ret
  exact ⟨_,rfl,by simpa using hown1,((Below.refl _ _).alloc (Nat.le_refl _) _).grown hg1 (by simp) (by intro k hk;simp [Value.ownBlock] at hk;omega)⟩
def Apart (w:World) (S F G:Nat→Prop):Prop:=∀ i,S i→i<w.heap.size∧¬ F i∧¬ G i
theorem Apart.grew {w w':World} {S F G F' G':Nat→Prop} (h:Apart w S F G) (g:Grew w w' F G F' G'):Apart w' S F' G':=fun i hi =>
 ⟨Nat.lt_of_lt_of_le (h i hi).1 g.chg.size,fun hf=>by
  rcases g.newF i hf with h1 | h1
  ·exact (h i hi).2.1 h1
  ·have:=(h i hi).1;omega,fun hg=>by
  rcases g.newG i hg with h1 | h1
  ·exact (h i hi).2.2 h1
  ·have:=(h i hi).1;omega⟩
theorem EntsS.grew {w w':World} {S F G F' G':Nat→Prop} {A:Option Addr} {qs:List (LE×List Int)} (h:EntsS w S A qs) (ha:Apart w S F G) (g:Grew w w' F G F' G'):EntsS w' S A qs :=
 h.keep fun i hi=>g.chg.keep (ha i hi).1 (fun hfg=>hfg.elim (ha i hi).2.1 (ha i hi).2.2)
theorem BoxAt.grew {w w':World} {z:Nat} {m:Rf.Msg} {A:Option Addr} {n c:Nat} {F G F' G':Nat→Prop} (h:BoxAt w z m A n c) (hz:¬ (F z∨G z)) (g:Grew w w' F G F' G'):BoxAt w' z m A n c∧¬ (F' z∨G' z) :=
 ⟨h.chg g.chg hz,by
  rintro (hf | hg)
  ·rcases g.newF z hf with h1 | h1
   ·exact hz (.inl h1)
   ·have:=h.lt;omega
  ·rcases g.newG z hg with h1 | h1
   ·exact hz (.inr h1)
   ·have:=h.lt;omega⟩
theorem from_cut {fr:Int} {l:List Rf.Ent} (h:FromOK fr l0 l) {i:Nat} (hi:i≤l.length):FromOK (if fr=0∨(i:Int)+1<fr then (i:Int)+1 else fr) l0 (l.take i):=by
 rcases h with ⟨h1,h2⟩ | ⟨k,h1,h2,h3,h4⟩
 ·subst h1 h2
  rw [if_pos (.inl rfl)]
  exact .inr ⟨i,rfl,hi,by rw [List.length_take];omega,by rw [List.take_take,Nat.min_self]⟩
 ·by_cases hk:(i:Int)+1<fr
  ·rw [if_pos (.inr hk)]
   have hik:i<k:=by omega
   refine .inr ⟨i,rfl,by omega,by rw [List.length_take];omega,?_⟩
   have:=congrArg (List.take i) h4
   rw [List.take_take,List.take_take,Nat.min_eq_left (by omega)] at this
   rw [List.take_take,Nat.min_self];exact this
  ·rw [if_neg (by omega)]
   refine .inr ⟨k,h1,h2,by rw [List.length_take];omega,?_⟩
   rw [List.take_take,Nat.min_eq_left (by omega)];exact h4
theorem NdAt.relog {w w1:World} {s:NS} {c:NC} (h:NdAt w F G b s c) (hb1:Below w.heap.size w w1) {A:Option Addr} {n k:Nat} {xs:List (LE×List Int)} (hown:Own encLE 3 67 w1 w.heap.size (.slice A n k) (xs.map (·.1))) (hin:∀ q∈xs,q∈c.log) :
  NdAt (w1.setCell ⟨b,8,none⟩ (.slice A n k)) (fun i=>F i∨(w.heap.size≤i∧i<w1.heap.size)) G b s { c with lA:=A,ln:=n,lc:=k,log:=xs }:=by
 have hB1:=(hb1.block b h.lt).trans h.blk
 have hne:∀ (cur:Array Value) (t:TypeId) (i:Nat),w1.heap[i]?=some (Obj.cells cur t (0,0))→t≠126→i≠b:=by
  rintro cur t i h1 h2 rfl
  exact h2 (ne_typed h1 hB1)
 refine ⟨block_setCell (o:=8) hB1 _,.inl h.hb,?_⟩
 refine NCAt.relog h.rest h.blk h.hb ((Chg.ofBelow hb1).setCell (.inl (.inl rfl)) _) (fun i hi=>.inl hi) (fun i hi=>?_) (fun i hi=>?_) ?_
 ·rcases hi with hi | hi
  ·exact .inl hi
  ·exact .inr hi.1
 ·show i<(w1.setCell _ _).heap.size
  have e:(w1.setCell ⟨b,8,none⟩ (.slice A n k)).heap.size=w1.heap.size:=by simp [World.setCell]
  rw [e]
  rcases hi with hi | hi
  ·have:=h.rest.bdF i hi;have:=hb1.size;omega
  ·exact hi.2
 ·refine ⟨?_,fun i hi=>?_,fun q hq=>?_⟩
  ·refine (hown.same fun i e=>?_).weaken (Nat.zero_le _)
   obtain ⟨cur,ht⟩:=hown.typed i e
   exact Below.heap_setCell _ _ _ _ (hne cur 67 i ht (by decide))
  ·exact .inr ⟨(hown.lt i hi).1,(hown.lt i hi).2⟩
  ·have he:=h.rest.log.each q (hin q hq)
   refine ⟨he.1.same fun i e=>?_,fun i e=>.inl (he.2.1 i e),he.2.2⟩
   have h1:=hb1.block i (he.1.lt i e).2
   obtain ⟨cur,ht⟩:=he.1.typed i e
   exact (Below.heap_setCell _ _ _ _ (hne cur 5 i (h1.trans ht) (by decide))).trans h1
theorem follow_at' (h:NodeAt w F G b cf draw l0 p ms) (hf:Fits cf p) (t l:Nat):Calls Tryz.prog 97 #[.pointer (some ⟨b,0,none⟩),.int .i64 t,.int .i64 l] w fun e w'=>e=.returned (.tuple #[])∧NodeAt w' F G b cf draw l0 (Rf.follow cf draw t l p) ms∧Grew w w' F G F G:=by
 obtain ⟨s,c,hN,hR,hM,hF⟩:=h
 have h1:=hf.time
 refine (follow_any b s c t l w hN.blk (by have:=hR.cfg;omega) (by have:=hR.cfg;omega) (by have:=hR.cfg;omega)).mono ?_
 rintro e w' ⟨rfl,hC,hB⟩
 refine ⟨rfl,⟨s.follow t l,c,hN.scal hC hB,?_,hM,hF⟩,Grew.ofChg (hC.mono fun i hi=>.inl (hi▸hN.hb)) (fun _ h=>h) fun _ h=>.inl h⟩
 unfold NS.follow Rf.follow
 refine rest_rel (p:={ p with role:=1,term:=max p.term t,vote:=if p.term<t then 0 else p.vote,leader:=l }) ⟨hR.id,hR.cfg,⟨?_,?_⟩,⟨hR.zero.1,hR.zero.2.1,rfl⟩,hR.commit,⟨rfl,rfl⟩,hR.time,hR.draw,hR.peers,hR.log,fun h=>absurd (show (1:Nat)=4 from h) (by decide),fun h=>absurd (show (1:Nat)=2∨(1:Nat)=3 from h) (by decide),fun h=>absurd (show (1:Nat)=3 from h) (by decide),hR.sn⟩ hf.time
 ·show (if s.term<(t:Int) then (t:Int) else s.term)=((max p.term t:Nat):Int)
  have:=hR.hard.1
  split <;> omega
 ·show (if s.term<(t:Int) then (0:Int) else s.vote)=((if p.term<t then 0 else p.vote:Nat):Int)
  have h1:=hR.hard.1
  have h2:=hR.hard.2
  by_cases h:p.term<t
  ·rw [if_pos (by omega),if_pos h];rfl
  ·rw [if_neg (by omega),if_neg h];exact h2
theorem NodeAt.set11 (h:NodeAt w F G b cf draw l0 p ms) (v:Nat) (x:Int) (hx:x=v):NodeAt (w.setCell ⟨b,11,none⟩ (.int .i64 x)) F G b cf draw l0 { p with commit:=v } ms:=by
 obtain ⟨s,c,hN,h,h2⟩:=h
 exact ⟨{ s with commit:=x },c,hN.scal (chg1 Chg.refl _) (block_setCell (o:=11) hN.blk _),⟨h.id,h.cfg,h.hard,h.zero,hx,h.role,h.time,h.draw,h.peers,h.log,h.lead,h.gr,h.rf,h.sn⟩,h2⟩
end
section
variable {w w1 w2:World} {F G:Nat→Prop} {b:Nat} {cf:Rf.Cfg} {draw:Int} {l0:List Rf.Ent} {p:Rf.Nd} {ms:List Rf.Msg}
theorem turned_from (s:NS) (i:Int):(s.turned i).from_=if s.from_=0∨i<s.from_ then i else s.from_:=by
 unfold NS.turned
 split <;> rfl
theorem Rel.turned {s:NS} {c:NC} (h:Rel cf draw s c p) (i:Int):Rel cf draw (s.turned i) c p:=by
 unfold NS.turned
 split
 ·exact ⟨h.id,h.cfg,h.hard,h.zero,h.commit,h.role,h.time,h.draw,h.peers,h.log,h.lead,h.gr,h.rf,h.sn⟩
 ·exact h
theorem Rel.logged {s:NS} {c c':NC} (h:Rel cf draw s c p) (hc:c'={ c with lA:=c'.lA,ln:=c'.ln,lc:=c'.lc,log:=c'.log }) {l:List Rf.Ent} (hl:c'.log.map con=numb 0 l):Rel cf draw s c' { p with log:=l }:=by
 have e1:c'.peers=c.peers:=by rw [hc]
 have e2:c'.mtR=c.mtR∧c'.nxR=c.nxR∧c'.hdR=c.hdR∧c'.mt=c.mt∧c'.nx=c.nx∧c'.hd=c.hd:=by rw [hc];exact ⟨rfl,rfl,rfl,rfl,rfl,rfl⟩
 have e3:c'.grR=c.grR∧c'.gr=c.gr∧c'.rfR=c.rfR∧c'.rf=c.rf∧c'.sn=c.sn:=by rw [hc];exact ⟨rfl,rfl,rfl,rfl,rfl⟩
 obtain ⟨a1,a2,a3,a4,a5,a6⟩:=e2
 obtain ⟨b1,b2,b3,b4,b5⟩:=e3
 refine ⟨h.id,h.cfg,h.hard,h.zero,h.commit,h.role,h.time,h.draw,e1.trans h.peers,hl,fun h4=>?_,fun h2=>?_,fun h3=>?_,b5.trans h.sn⟩
 ·rw [a1,a2,a3,a4,a5,a6];exact h.lead h4
 ·rw [b1,b2];exact h.gr h2
 ·rw [b3,b4];exact h.rf h3
theorem numb_nil {k:Nat} {l:List Rf.Ent} (h:numb k l=[]):l=[]:=by
 cases l with
 | nil=>rfl
 | cons e l=>cases h
theorem join_at (h:NodeAt w F G b cf draw l0 p ms) (hf:Fits cf p) (A:Option Addr) (n k:Nat) (ps:List (LE×List Int)) (S:Nat→Prop) (hx:EntsS w S A ps) (hS:∀ i,S i→i<w.heap.size∧i≠b) (hn:n=ps.length) (es:List Rf.Ent) (hes:ps.map con=numb p.log.length es) (hl:es.length≤70000) :
  Calls Tryz.prog 104 #[.pointer (some ⟨b,0,none⟩),.slice A n k] w fun e w'=>e=.returned (.tuple #[])∧∃ F',NodeAt w' F' G b cf draw l0 { p with log:=p.log++es } ms∧Grew w w' F G F' G:=by
 obtain ⟨s,c,hN,hR,hM,hF⟩:=h
 have hpl:ps.length=es.length:=by have:=congrArg List.length hes;rwa [List.length_map,numb_len] at this
 have hcl:=hR.len
 have hz:=hR.zero
 refine (join_any b s c F G w hN A n k ps S hx hS hn (by omega) (by have:=hf.fin;omega) (by omega) (by omega)).mono ?_
 rintro e w' ⟨rfl,F',c',hN',hlog,hc',hC,h1,h2⟩
 refine ⟨rfl,F',⟨_,c',hN',?_,?_,?_⟩,Grew.ofChg hC h1 h2⟩
 ·have hl':c'.log.map con=numb 0 (p.log++es):=by rw [hlog,hR.log,hes,numb_append,Nat.zero_add]
  split
  ·exact hR.logged hc' hl'
  ·exact (hR.turned _).logged hc' hl'
 ·rw [hc'];exact hM
 ·split
  ·next he =>
   subst he
   have:es=[]:=numb_nil hes.symm
   subst this
   show FromOK s.from_ l0 (p.log++[])
   rw [List.append_nil];exact hF
  ·rw [turned_from]
   have:=from_app hF es
   rwa [show s.snap+(c.log.length:Int)+1=(p.log.length:Int)+1 by omega]
theorem NodeAt.log8 (h:NodeAt w F G b cf draw l0 p ms):∃ (A:Option Addr) (n k:Nat) (ls:List LE),w.cell? ⟨b,8,none⟩=some (.slice A n k)∧Row encLE 3 w w.heap.size A ls∧n=ls.length∧n≤k∧n=p.log.length ∧
  ∀ (w1:World) (A':Option Addr) (n' k' i:Nat),i≤p.log.length→Below w.heap.size w w1→Own encLE 3 67 w1 w.heap.size (.slice A' n' k') (ls.take i) →
   Calls Tryz.prog 148 #[.pointer (some ⟨b,0,none⟩),.int .i64 ((i:Int)+1)] (w1.setCell ⟨b,8,none⟩ (.slice A' n' k')) fun e w'=>e=.returned (.tuple #[])∧∃ F',NodeAt w' F' G b cf draw l0 { p with log:=p.log.take i } ms∧Grew w w' F G F' G:=by
 obtain ⟨s,c,hN,hR,hM,hF⟩:=h
 obtain ⟨he,hn,hk⟩:=hN.rest.log.ents
 refine ⟨c.lA,c.ln,c.lc,c.log.map (·.1),nc8 hN.blk,he.row,by rw [List.length_map];exact hn,hk,hn.trans hR.len,fun w1 A' n' k' i hi hb1 hown=>?_⟩
 rw [←List.map_take] at hown
 have hN1:=hN.relog hb1 hown fun q hq=>List.mem_of_mem_take hq
 refine (turned_any b s _ _ _ hN1.blk).mono ?_
 rintro e w' ⟨rfl,hC,hB⟩
 refine ⟨rfl,_,⟨_,_,hN1.scal hC hB,(hR.turned _).logged (c':={ c with lA:=A',ln:=n',lc:=k',log:=c.log.take i }) rfl ?_,hM,?_⟩,?_⟩
 ·rw [List.map_take,hR.log,numb_take]
 ·rw [turned_from];exact from_cut hF hi
 ·have hC1:Chg F w (w1.setCell ⟨b,8,none⟩ (.slice A' n' k')):=(Chg.ofBelow hb1).setCell (.inl hN.hb) _
  refine Grew.ofChg (hC1.trans2 hC fun j hj=>.inl (hj▸hN.hb)) (fun _ h=>.inl h) fun j hj=>?_
  rcases hj with hj | hj
  ·exact .inl hj
  ·exact .inr hj.1
theorem Row.take {α:Type} {enc:α→List Value} {sz B:Nat} {A:Option Addr} {xs:List α} (h:Row enc sz w B A xs) (n:Nat):Row enc sz w B A (xs.take n):=by
 rcases h with h | ⟨b,o,e,hb,hc⟩
 ·exact .inl (by rw [h];simp)
 ·refine .inr ⟨b,o,e,hb,fun k x hk=>hc k x ?_⟩
  rw [List.getElem?_take] at hk
  split at hk
  ·exact hk
  ·cases hk
theorem RowS.cut {α:Type} {enc:α→List Value} {sz:Nat} {S:Nat→Prop} {A:Option Addr} {xs:List α} {k n cap:Nat} (h:RowS enc sz w S A xs) (hk:k≤n) (hn:n≤cap) (hx:n=xs.length):RowS enc sz w S (if cap=k then A else A.map (·.add (k*sz))) (xs.drop k):=by
 by_cases hz:xs.drop k=[]
 ·exact .inl hz
 ·rcases h with rfl | ⟨b,o,e,hb',hc⟩
  ·simp at hz
  ·have hkn:k<n:=by
    rcases Nat.lt_or_ge k n with h | h
    ·exact h
    ·exact absurd (List.drop_eq_nil_of_le (by omega)) hz
   subst e
   rw [if_neg (by omega)]
   refine .inr ⟨b,o+k*sz,?_,hb',fun i x hi j v hv=>?_⟩
   ·simp only [Option.map_some,Addr.add]
    split
    ·next h0=>simp [h0]
    ·rfl
   ·rw [List.getElem?_drop] at hi
    have:=hc (k+i) x hi j v hv
    rwa [Nat.add_mul,←Nat.add_assoc] at this
theorem EntsS.cut {S:Nat→Prop} {A:Option Addr} {ps:List (LE×List Int)} {k n cap:Nat} (h:EntsS w S A ps) (hk:k≤n) (hn:n≤cap) (hx:n=ps.length):EntsS w S (if cap=k then A else A.map (·.add (k*3))) (ps.drop k):=by
 have:=h.row.cut hk hn (by rw [List.length_map];exact hx)
 rw [←List.map_drop] at this
 exact ⟨this,fun p hp=>h.each p (List.mem_of_mem_drop hp)⟩
end
end Go.Proofs.YtocogcgnahbpkaaGreat
