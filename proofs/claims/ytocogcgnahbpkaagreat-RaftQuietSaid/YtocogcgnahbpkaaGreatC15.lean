import Derived.Deep.RegionLaw
import Derived.Laws.ResultCell
import Derived.Laws.Rows
import Derived.ArgAppend
import Derived.DeepKeys3
import Derived.Test.YtocogcgnahbpkaaGreatC12
import Derived.Test.YtocogcgnahbpkaaGreatC13
import Derived.Test.YtocogcgnahbpkaaGreatC14
namespace Go.Proofs.YtocogcgnahbpkaaGreat
open Go.RowKit
section
variable {w w':World} {F F' G G':Nat→Prop} {b:Nat} {s:NS} {c:NC}
theorem ne_typed {i:Nat} {a1 a2:Array Value} {t1 t2:TypeId} {f1 f2:Nat×Nat} (h1:w.heap[i]?=some (Obj.cells a1 t1 f1)) (h2:w.heap[i]?=some (Obj.cells a2 t2 f2)):t1=t2:=by
 rw [h1] at h2;injection h2 with h2;injection h2
theorem NCAt.relog (h:NCAt w F G c) {arr:Array Value} (hb:w.heap[b]?=some (.cells arr 126 (0,0))) (hFb:F b) (hc:Chg (fun i=>i=b∨(Value.slice c.lA c.ln c.lc).ownBlock=some i) w w')
  (hF:∀ i,F i→F' i) (hF':∀ i,F' i→F i∨w.heap.size≤i) (hbd:∀ i,F' i→i<w'.heap.size) {A:Option Addr} {n k:Nat} {log:List (LE×List Int)} (hl:EntsF w' F' (.slice A n k) log) :
  NCAt w' F' G { c with lA:=A,ln:=n,lc:=k,log:=log }:=by
 have hrow:∀ i,(Value.slice c.lA c.ln c.lc).ownBlock=some i→∃ cur,w.heap[i]?=some (Obj.cells cur 67 (0,0)):=fun i hi=>h.log.own.typed i hi
 have hcell:∀ (i:Nat) (cur:Array Value) (t:TypeId),w.heap[i]?=some (Obj.cells cur t (0,0))→t≠126→t≠67→w'.heap[i]?=w.heap[i]?:=by
  intro i cur t h1 h2 h3
  refine hc.keep (block_lt h1) ?_
  rintro (rfl | hi)
  ·exact h2 (ne_typed h1 hb)
  ·obtain ⟨c2,hr⟩:=hrow i hi
   exact h3 (ne_typed h1 hr)
 have hmap:∀ (i:Nat) (es:Array MapEntry) (c:Nat),w.heap[i]?=some (Obj.map es c)→w'.heap[i]?=w.heap[i]?:=by
  intro i es c h1
  refine hc.keep (block_lt h1) ?_
  rintro (rfl | hi)
  ·rw [hb] at h1;cases h1
  ·obtain ⟨c2,hr⟩:=hrow i hi
   rw [hr] at h1;cases h1
 have M:∀ {β:Type} {venc:β→Value} {r l},MapF venc w F r l→MapF venc w' F' r l:=fun h=>(h.keepT fun i _ ⟨es,c,h1⟩=>hmap i es c h1).mono fun i hi _=>hF i hi
 refine ⟨hbd,fun i hi=>Nat.lt_of_lt_of_le (h.bdG i hi) hc.size,fun i hi hg=>?_,h.peers.same fun k e=>?_,fun k e=>hF k (h.peersF k e),hl,M h.mt,M h.nx,M h.hd,M h.gr,M h.rf,M h.sn,h.msgs.keep fun i hi hlt=>hc.keep hlt ?_,h.apart⟩
 ·rcases hF' i hi with h1 | h1
  ·exact h.dis i h1 hg
  ·have:=h.bdG i hg;omega
 ·obtain ⟨cur,h1⟩:=h.peers.typed k e
  exact hcell k cur 3 h1 (by decide) (by decide)
 ·rintro (rfl | e)
  ·exact h.dis i hFb hi
  ·exact h.dis i (h.log.inF i e) hi
theorem NCAt.remsg (h:NCAt w F G c) {arr:Array Value} (hb:w.heap[b]?=some (.cells arr 126 (0,0))) (hc:Chg (fun i=>i=b∨(Value.slice c.mA c.mn c.mc).ownBlock=some i) w w')
  (hG':∀ i,G' i→G i∨w.heap.size≤i) (hbd:∀ i,G' i→i<w'.heap.size) {A:Option Addr} {n k:Nat} {ms:List (MR×List (LE×List Int))} (hm:MsgsF w' G' (.slice A n k) ms) :
  NCAt w' F G' { c with mA:=A,mn:=n,mc:=k,msgs:=ms }:=by
 have hk:∀ i,F i→i<w.heap.size→i≠b→w'.heap[i]?=w.heap[i]?:=by
  intro i hi hl hne
  refine hc.keep hl ?_
  rintro (e | e)
  ·exact hne e
  ·exact h.dis i hi (h.msgs.inF i e)
 have hcell:∀ (i:Nat) (cur:Array Value) (t:TypeId),w.heap[i]?=some (Obj.cells cur t (0,0))→t≠126→i≠b:=by
  rintro i cur t h1 h2 rfl
  exact h2 (ne_typed h1 hb)
 have hmap:∀ (i:Nat) (es:Array MapEntry) (c:Nat),w.heap[i]?=some (Obj.map es c)→i≠b:=by
  rintro i es c h1 rfl
  rw [hb] at h1;cases h1
 have M:∀ {β:Type} {venc:β→Value} {r l},MapF venc w F r l→MapF venc w' F r l:=fun h=>h.keepT fun i hi ⟨es,c,h1⟩=>hk i hi (block_lt h1) (hmap i es c h1)
 refine ⟨fun i hi=>Nat.lt_of_lt_of_le (h.bdF i hi) hc.size,hbd,fun i hi hg=>?_,h.peers.same fun k e=>?_,h.peersF,h.log.keepT fun i hi ⟨cur,t,h1,h2⟩=>hk i hi (block_lt h1) (hcell i cur t h1 (by rcases h2 with rfl | rfl <;> decide)),M h.mt,M h.nx,M h.hd,M h.gr,M h.rf,M h.sn,hm,h.apart⟩
 ·rcases hG' i hg with h1 | h1
  ·exact h.dis i hi h1
  ·have:=h.bdF i hi;omega
 ·obtain ⟨cur,h1⟩:=h.peers.typed k e
  exact hk k (h.peersF k e) (block_lt h1) (hcell k cur 3 h1 (by decide))
theorem NCAt.remaps (h:NCAt w F G c) {arr:Array Value} (hb:w.heap[b]?=some (.cells arr 126 (0,0))) (hFb:F b) {X:Nat→Prop} (hc:Chg X w w') (hX:∀ i,X i→i=b∨F i∧∃ es c,w.heap[i]?=some (Obj.map es c))
  (hF:∀ i,F i→F' i) (hF':∀ i,F' i→F i∨w.heap.size≤i) (hbd:∀ i,F' i→i<w'.heap.size) {mtR nxR hdR grR rfR snR:Option Nat} {mt nx:List (Int×Int)} {hd gr rf sn:List (Int×Unit)}
  (hmt:MapF (Value.int .i64) w' F' mtR mt) (hnx:MapF (Value.int .i64) w' F' nxR nx) (hhd:MapF (fun _=>Value.bool true) w' F' hdR hd) (hgr:MapF (fun _=>Value.bool true) w' F' grR gr) (hrf:MapF (fun _=>Value.bool true) w' F' rfR rf) (hsn:MapF (fun _=>Value.bool true) w' F' snR sn)
  (hap:([mtR,nxR,hdR,grR,rfR,snR].filterMap fun x=>x).Nodup) :
  NCAt w' F' G { c with mtR:=mtR,mt:=mt,nxR:=nxR,nx:=nx,hdR:=hdR,hd:=hd,grR:=grR,gr:=gr,rfR:=rfR,rf:=rf,snR:=snR,sn:=sn }:=by
 have hcell:∀ (i:Nat) (cur:Array Value) (t:TypeId),w.heap[i]?=some (Obj.cells cur t (0,0))→t≠126→w'.heap[i]?=w.heap[i]?:=by
  intro i cur t h1 h2
  refine hc.keep (block_lt h1) fun hx=>?_
  rcases hX i hx with rfl | ⟨_,es,c,h3⟩
  ·exact h2 (ne_typed h1 hb)
  ·rw [h3] at h1;cases h1
 refine ⟨hbd,fun i hi=>Nat.lt_of_lt_of_le (h.bdG i hi) hc.size,fun i hi hg=>?_,h.peers.same fun k e=>?_,fun k e=>hF k (h.peersF k e),(h.log.keepT fun i _ ⟨cur,t,h1,h2⟩=>hcell i cur t h1 (by rcases h2 with rfl | rfl <;> decide)).mono fun i hi _=>hF i hi,
  hmt,hnx,hhd,hgr,hrf,hsn,h.msgs.keepT fun i _ ⟨cur,t,h1,h2⟩=>hcell i cur t h1 (by rcases h2 with rfl | rfl | rfl <;> decide),hap⟩
 ·rcases hF' i hi with h1 | h1
  ·exact h.dis i h1 hg
  ·have:=h.bdG i hg;omega
 ·obtain ⟨cur,h1⟩:=h.peers.typed k e
  exact hcell k cur 3 h1 (by decide)
end
def RowS {α:Type} (enc:α→List Value) (sz:Nat) (w:World) (S:Nat→Prop) (A:Option Addr) (xs:List α):Prop :=
 xs=[]∨∃ b o,A=some ⟨b,o,none⟩∧S b∧∀ k x,xs[k]?=some x→∀ j v,(enc x)[j]?=some v→w.cell? ⟨b,o+k*sz+j,none⟩=some v
section
variable {α:Type} {enc:α→List Value} {sz:Nat} {w w':World} {S S':Nat→Prop} {A:Option Addr} {xs:List α}
theorem RowS.row (h:RowS enc sz w S A xs) {B:Nat} (hS:∀ i,S i→i<B):Row enc sz w B A xs:=by
 rcases h with h | ⟨b,o,e,hb,hc⟩
 ·exact .inl h
 ·exact .inr ⟨b,o,e,hS b hb,hc⟩
theorem RowS.keep (h:RowS enc sz w S A xs) (hk:∀ i,S i→w'.heap[i]?=w.heap[i]?):RowS enc sz w' S A xs:=by
 rcases h with h | ⟨b,o,e,hb,hc⟩
 ·exact .inl h
 ·exact .inr ⟨b,o,e,hb,fun k x hx j v hv=>(World.cell?_of_block (hk b hb)).trans (hc k x hx j v hv)⟩
theorem RowS.mono (h:RowS enc sz w S A xs) (hs:∀ i,S i→S' i):RowS enc sz w S' A xs:=by
 rcases h with h | ⟨b,o,e,hb,hc⟩
 ·exact .inl h
 ·exact .inr ⟨b,o,e,hs b hb,hc⟩
end
structure EntsS (w:World) (S:Nat→Prop) (A:Option Addr) (ps:List (LE×List Int)):Prop where
 row:RowS encLE 3 w S A (ps.map (·.1))
 each:∀ p∈ps,RowS encB 1 w S p.1.A p.2∧p.1.n=p.2.length∧p.2.length≤140737488351232
section
variable {w w':World} {S S':Nat→Prop} {A:Option Addr} {ps:List (LE×List Int)}
theorem EntsS.ents (h:EntsS w S A ps) {B:Nat} (hS:∀ i,S i→i<B):Ents w B A ps:=⟨h.row.row hS,fun p hp=>⟨(h.each p hp).1.row hS,(h.each p hp).2⟩⟩
theorem EntsS.keep (h:EntsS w S A ps) (hk:∀ i,S i→w'.heap[i]?=w.heap[i]?):EntsS w' S A ps:=⟨h.row.keep hk,fun p hp=>⟨(h.each p hp).1.keep hk,(h.each p hp).2⟩⟩
theorem EntsS.mono (h:EntsS w S A ps) (hs:∀ i,S i→S' i):EntsS w S' A ps:=⟨h.row.mono hs,fun p hp=>⟨(h.each p hp).1.mono hs,(h.each p hp).2⟩⟩
theorem EntsS.nil:EntsS w S A []:=⟨.inl rfl,by simp⟩
end
theorem map_len {qs ps:List (LE×List Int)} {N:Nat} (h:qs.map con=ps.map con) (hl:ps.length≤N):qs.length≤N:=by
 have:=congrArg List.length h
 simp at this;omega
theorem join_post {w w2 w3 w4:World} {F G:Nat→Prop} {b:Nat} {s s':NS} {c:NC} (h:NdAt w F G b s c) (hc2:Chg (fun i=>i=b) w w2) (hb3:Below w2.heap.size w2 w3) {v:Value} {qs:List (LE×List Int)} (hO:OEnts w3 w2.heap.size v qs)
  (hg:w3.grownBy w4 (Value.slice c.lA c.ln c.lc).ownBlock) {A:Option Addr} {n k:Nat} (hown:Own encLE 3 67 w4 0 (.slice A n k) (c.log.map (·.1)++qs.map (·.1)))
  (hat:(Value.slice A n k).ownBlock=(Value.slice c.lA c.ln c.lc).ownBlock∨(Value.slice A n k).ownBlock=some w3.heap.size) (hB:w4.heap[b]?=some (.cells (ncells s' c) 126 (0,0))) :
  ∃ F' c',NdAt (w4.setCell ⟨b,8,none⟩ (.slice A n k)) F' G b s' c'∧c'.log.map con=c.log.map con++qs.map con∧c'={ c with lA:=c'.lA,ln:=c'.ln,lc:=c'.lc,log:=c'.log }∧Chg F w (w4.setCell ⟨b,8,none⟩ (.slice A n k))∧(∀ i,F i→F' i)∧(∀ i,F' i→F i∨w.heap.size≤i):=by
 have hz2:=hc2.size
 have hz3:=hb3.size
 have hz4:=hg.size
 have hr:=h.rest
 have hch:Chg (fun i=>i=b∨(Value.slice c.lA c.ln c.lc).ownBlock=some i) w (w4.setCell ⟨b,8,none⟩ (.slice A n k)):=by
  refine Chg.setCell (Chg.grown (b:=w3) ?_ hg (fun j hj=>.inl (.inr hj))) (.inl (.inl rfl)) _
  exact ((hc2.mono fun i hi=>.inl (.inl hi))).below hb3
 have hrowF:∀ i,(Value.slice c.lA c.ln c.lc).ownBlock=some i→F i:=h.rest.log.inF
 have hbd4:∀ i,(Value.slice A n k).ownBlock=some i→i<w4.heap.size:=fun i e=>(hown.lt i e).2
 have hne:∀ i,(Value.slice A n k).ownBlock=some i→b≠i:=by
  rintro i e rfl
  obtain ⟨cur,ht⟩:=hown.typed b e
  exact absurd (ne_typed ht hB) (by decide)
 have hsame:∀ i,i≠b→(w4.setCell ⟨b,8,none⟩ (.slice A n k)).heap[i]?=w4.heap[i]?:=fun i hi=>Below.heap_setCell _ _ _ _ hi
 refine ⟨fun i=>F i∨(w.heap.size≤i∧i<w4.heap.size),{ c with lA:=A,ln:=n,lc:=k,log:=c.log++qs },⟨?_,.inl h.hb,NCAt.relog hr h.blk h.hb hch (fun i hi=>.inl hi) (fun i hi=>by rcases hi with hi | hi;exact .inl hi;exact .inr hi.1) ?_ ?_⟩,by simp,rfl,?_,fun i hi=>.inl hi,fun i hi=>by rcases hi with hi | hi;exact .inl hi;exact .inr hi.1⟩
 ·exact block_setCell (o:=8) hB _
 ·intro i hi
  rcases hi with hi | hi
  ·exact Nat.lt_of_lt_of_le (hr.bdF i hi) hch.size
  ·simpa [World.setCell] using hi.2
 ·refine ⟨?_,fun i e=>?_,fun q hq=>?_⟩
  ·rw [List.map_append]
   exact hown.same fun i e=>hsame i (hne i e).symm
  ·have h4:=hbd4 i e
   rcases hat with hat | hat
   ·exact .inl (hrowF i (hat▸e))
   ·rw [hat] at e;injection e with e;subst e
    exact .inr ⟨by omega,h4⟩
  ·rcases List.mem_append.1 hq with hq | hq
   ·obtain ⟨h1,h2,h3⟩:=hr.log.each q hq
    refine ⟨h1.same fun i e=>hch.keep (h1.lt i e).2 ?_,fun i e=>.inl (h2 i e),h3⟩
    obtain ⟨c1,t1⟩:=h1.typed i e
    rintro (rfl | e2)
    ·exact absurd (ne_typed t1 h.blk) (by decide)
    ·obtain ⟨c2,t2⟩:=hr.log.own.typed i e2
     exact absurd (ne_typed t1 t2) (by decide)
   ·obtain ⟨h1,h2,h3⟩:=hO.each q hq
    have hlt:∀ i,(Value.slice q.1.A q.1.n q.1.c).ownBlock=some i→w2.heap.size≤i∧i<w3.heap.size:=fun i e=>h1.lt i e
    have hbl:=h.lt
    refine ⟨((h1.weaken (Nat.zero_le _)).same fun i e=>(hg.block i (hlt i e).2 fun e2=>?_)).same fun i e=>hsame i ?_,fun i e=>.inr ?_,h3⟩
    ·have:=hr.log.lt i e2.symm;have:=(hlt i e).1;omega
    ·have:=(hlt i e).1;omega
    ·have:=hlt i e;omega
 ·exact hch.mono fun i hi=>by rcases hi with rfl | hi;exact .inl h.hb;exact .inl (hrowF i hi)
set_option maxRecDepth 100000 in
set_option maxHeartbeats 1000000 in
theorem join_any (b:Nat) (s:NS) (c:NC) (F G:Nat→Prop) (w:World) (h:NdAt w F G b s c) (A:Option Addr) (n k:Nat) (ps:List (LE×List Int)) (S:Nat→Prop) (hx:EntsS w S A ps) (hS:∀ i,S i→i<w.heap.size∧i≠b) (hn:n=ps.length) (hl:ps.length≤70000) (hll:c.log.length≤70000) (h0:0≤s.snap) (h1:s.snap≤2199023255552) :
  Calls Tryz.prog 104 #[.pointer (some ⟨b,0,none⟩),.slice A n k] w fun e w'=>e=.returned (.tuple #[])∧∃ F' c',NdAt w' F' G b (if ps=[] then s else s.turned (s.snap+c.log.length+1)) c'∧c'.log.map con=c.log.map con++ps.map con ∧
   c'={ c with lA:=c'.lA,ln:=c'.ln,lc:=c'.lc,log:=c'.log }∧Chg F w w'∧(∀ i,F i→F' i)∧(∀ i,F' i→F i∨w.heap.size≤i):=by
 subst hn
 obtain ⟨_,hln,_⟩:=h.rest.log.ents
 have HH:=ld h
 by_cases hz:ps=[]
 ·subst hz
  clear h
  show Calls Tryz.prog 104 #[.pointer (some ⟨b,0,none⟩),.slice A 0 k] w _
  go_enter Tryz.func104,Tryz.ntmps104
  go_wp2
  refine bodyPost_ret (results_none rfl _ _ _) rfl ?_
  exact ⟨rfl,F,c,HH.out,by simp,rfl,Chg.refl,fun _ h=>h,fun _ h=>.inl h⟩
 ·have hb:=h.blk
  have hb':=h.blk
  have hpos:0<ps.length:=List.length_pos_iff.2 hz
  have hzb:((ps.length:Int)==0)=false:=by rw [beq_eq_false_iff_ne];omega
  have HL:=ld hln
  have hlc:c.ln≤70000:=by omega
  clear hln h
  go_enter Tryz.func104,Tryz.ntmps104
  go_wp2_with (fail)
  refine (end_any b s c _ hb (by omega) (by omega) (by omega)).mono ?_
  rintro e w1 ⟨rfl,nq,rfl⟩
  go_wp2_with (fail)
  refine (turned_any b s c _ (w.drewN nq) hb).mono ?_
  rintro e w2 ⟨rfl,hc2,hb2⟩
  have c8:=nc8 hb2
  have hf:=frozen_block hb2
  have H2:=ld hb2
  have hx2:Ents w2 w2.heap.size A ps:=(hx.keep (w':=w2) fun i hi=>hc2.keep (hS i hi).1 (hS i hi).2).ents fun i hi=>Nat.lt_of_lt_of_le (hS i hi).1 hc2.size
  have HOL:∀ w3,Below w2.heap.size w2 w3→Own encLE 3 67 w3 0 (.slice c.lA c.ln c.lc) (c.log.map (·.1)):=fun w3 hb=>HH.out.rest.log.own.same fun k e=>by
   have hk:=(HH.out.rest.log.own.lt k e).2
   have hkb:k≠b:=by
    rintro rfl
    obtain ⟨cur,ht⟩:=HH.out.rest.log.own.typed k e
    exact absurd (ne_typed ht hb') (by decide)
   exact (hb.block k (Nat.lt_of_lt_of_le hk hc2.size)).trans (hc2.keep hk hkb)
  have hne8:=ld (show some b≠(Value.slice c.lA c.ln c.lc).ownBlock from fun e=>by
   obtain ⟨cur,ht⟩:=HH.out.rest.log.own.typed b e.symm
   exact absurd (ne_typed ht hb) (by decide))
  clear hb2
  have hl7:ps.length≤100000:=by omega
  go_wp2_with (fail)
  go_region_law
   (first
    | (go_simp;go_at_call 58;refine (copied_any A _ k ps _ hx2.drew rfl hl7).mono ?_;rintro e w3 ⟨v3,qs3,rfl,hO3,hq3,hb3⟩;obtain ⟨A3,k3,rfl⟩:=hO3.own.form;have hql3:=map_len hq3 hl;have row3:=hO3.own.row len_LE;have hb3':Below w2.heap.size w2 w3:=⟨hb3.os,hb3.tape,hb3.output,hb3.size,hb3.block⟩;simp only [List.length_map] at hO3;have H3:=ld ((hb3'.block b (block_lt H2.out)).trans H2.out);have c83:=nc8 H3.out)
    | (refine step_app _ encLE 3 (by rfl) _ _ 46 (by rfl) 0 67 40 Tryz.underlying46 info67 (by omega) len_LE one_LE _ (c.log.map (·.1)) (by rfl) (HOL _ hb3') _ A3 qs3.length k3 (qs3.map (·.1)) (by simp) (by rfl) row3 (by simp;omega) (by simp;omega) (by simp) ?_;intro v4 w4 hown4 hg4 hat4 _;obtain ⟨A4,k4,rfl⟩:=hown4.form;have H4:=ld ((hg4.block b (block_lt H3.out) hne8.out).trans H3.out);have hf4:=frozen_block H4.out;have c84:=nc8 H4.out))
  all_goals
   go_end0
   have hp:=join_post HH.out (show Chg (fun i=>i=b) w w2 from ⟨hc2.os,hc2.tape,hc2.output,hc2.size,hc2.block⟩) hb3' hO3 hg4 hown4 hat4 H4.out
   simp only [List.length_append,List.length_map] at hp
   obtain ⟨F',c',g1,g2,g3,g4,g5,g6⟩:=hp
   exact ⟨rfl,F',c',by rw [if_neg hz];rw [HL.out] at g1;exact g1,by rw [g2,hq3],g3,g4,g5,g6⟩
theorem results_cell_tmp_row {P:Program} {fn:Func} {p u:Tmp} {ty:TypeId} (h:fn.results=#[.cell p ty,.tmp u]) (tmps:Array Value) (w:World) (g:Nat) (t:TypeId) (cs:Array Value) (fr:Nat×Nat) (d:TypeDesc) (x:Value)
  (hp:tmps.getD p undef=.pointer (some ⟨g,0,none⟩)) (hx:tmps.getD u undef=x) (hg:w.heap[g]?=some (.cells cs t fr))
  (hu:P.underlying ty=some d) (hd:(match d with | .struct _ | .array _ _=>true | _=>false)=true) (hi:(P.info? ty).map (·.size)=some cs.size) :
  (results fn tmps).run P w=.ok (.tuple #[.agg cs,x]) w:=by
 rw [results_cell_tmp h,hp,hx]
 simp [asAddr,Result.andThen,run_loadVar_row w g t ty cs fr d hg hu hd hi]
theorem Ents.cut {w:World} {B:Nat} {A:Option Addr} {ps:List (LE×List Int)} {k n c:Nat} (h:Ents w B A ps) (hk:k≤n) (hn:n=ps.length) (hc:n≤c):Ents w B (if c=k then A else A.map (·.add (k*3))) (ps.drop k):=by
 have:=h.row.cut hk hc
 rw [show List.take n (ps.map (·.1))=ps.map (·.1) from List.take_of_length_le (by simp [hn]),←List.map_drop] at this
 exact ⟨this,fun p hp=>h.each p (List.mem_of_mem_drop hp)⟩
theorem Own.rowS {α:Type} {enc:α→List Value} {sz:Nat} {e:TypeId} {w:World} {base:Nat} {A:Option Addr} {n c:Nat} {xs:List α} (hs:∀ x,(enc x).length=sz) (h:Own enc sz e w base (.slice A n c) xs):RowS enc sz w (fun i=>base≤i∧i<w.heap.size) A xs:=by
 rcases h.2 with ⟨_,h⟩ | ⟨g,cap,cur,hv,hb,hg,h1,h2,h3,h4⟩
 ·exact .inl (List.eq_nil_of_length_eq_zero h)
 ·have hr:=Own.row (A:=A) (c:=c) hs (by have:=(Own.cap h).1;subst this;exact h)
  injection hv with hA _ _
  subst hA
  rcases hr with h0 | ⟨b,o,e,_,hc⟩
  ·exact .inl h0
  ·injection e with e;injection e with e1 e2;subst e1;subst e2
   exact .inr ⟨_,_,rfl,⟨hb,block_lt hg⟩,hc⟩
theorem OEnts.entsS {w:World} {base:Nat} {A:Option Addr} {n c:Nat} {qs:List (LE×List Int)} (h:OEnts w base (.slice A n c) qs):EntsS w (fun i=>base≤i∧i<w.heap.size) A qs∧n=qs.length∧n≤c:=by
 have hc:=Own.cap h.own
 simp only [List.length_map] at hc
 exact ⟨⟨h.own.rowS len_LE,fun p hp=>⟨(h.each p hp).1.rowS len_B,(Own.cap (h.each p hp).1).1,(h.each p hp).2.2⟩⟩,hc⟩
def OwnO {α:Type} (enc:α→List Value) (sz:Nat) (e:TypeId) (w:World) (v:Value) (xs:List α):Prop :=
 (v=.slice none 0 0∧xs=[])∨∃ g off cap cur,v=.slice (some ⟨g,off,none⟩) xs.length cap∧w.heap[g]?=some (.cells cur e (0,0))∧off+cap*sz≤cur.size∧xs.length≤cap∧∀ j u,(xs.flatMap enc)[j]?=some u→cur[off+j]?=some u
section
variable {α:Type} {enc:α→List Value} {sz:Nat} {e:TypeId} {w w':World} {v:Value} {xs ys:List α}
theorem OwnO.nil:OwnO enc sz e w (.slice none 0 0) ([]:List α):=.inl ⟨rfl,rfl⟩
theorem OwnO.form (h:OwnO enc sz e w v xs):∃ A c,v=.slice A xs.length c∧xs.length≤c:=by
 rcases h with ⟨rfl,rfl⟩ | ⟨g,off,cap,cur,rfl,_,_,h,_⟩
 ·exact ⟨_,_,rfl,Nat.le_refl _⟩
 ·exact ⟨_,_,rfl,h⟩
theorem OwnO.same (h:OwnO enc sz e w v xs) (hk:∀ k,v.ownBlock=some k→w'.heap[k]?=w.heap[k]?):OwnO enc sz e w' v xs:=by
 rcases h with h | ⟨g,off,cap,cur,rfl,hg,h⟩
 ·exact .inl h
 ·exact .inr ⟨g,off,cap,cur,rfl,(hk g rfl).trans hg,h⟩
theorem OwnO.lt (h:OwnO enc sz e w v xs):∀ k,v.ownBlock=some k→k<w.heap.size:=by
 rcases h with ⟨rfl,_⟩ | ⟨g,off,cap,cur,rfl,hg,h⟩
 ·intro k hk;cases hk
 ·intro k hk;cases hk;exact block_lt hg
theorem OwnO.typed (h:OwnO enc sz e w v xs):∀ k,v.ownBlock=some k→∃ cur,w.heap[k]?=some (.cells cur e (0,0)):=by
 rcases h with ⟨rfl,_⟩ | ⟨g,off,cap,cur,rfl,hg,h⟩
 ·intro k hk;cases hk
 ·intro k hk;cases hk;exact ⟨_,hg⟩
theorem Own.ownO {base:Nat} (h:Own enc sz e w base v xs):OwnO enc sz e w v xs:=by
 rcases h.2 with ⟨rfl,h0⟩ | ⟨g,cap,cur,rfl,_,hg,h1,_,h3,h4⟩
 ·exact .inl ⟨rfl,List.eq_nil_of_length_eq_zero h0⟩
 ·refine .inr ⟨g,0,cap,cur,rfl,hg,by omega,h1,fun j u hj=>?_⟩
  rw [Nat.zero_add,←Array.getElem?_toList]
  have hlt:j<xs.length*sz:=by
   have h5:=h.1
   rw [←h5];exact (List.getElem?_eq_some_iff.1 hj).1
  rw [←h4,List.getElem?_take,if_pos hlt] at hj
  exact hj
theorem OwnO.rowS {A:Option Addr} {n c:Nat} {S:Nat→Prop} (hs:∀ x,(enc x).length=sz) (h:OwnO enc sz e w (.slice A n c) xs) (hS:∀ k,(Value.slice A n c).ownBlock=some k→S k):RowS enc sz w S A xs∧n=xs.length∧n≤c:=by
 rcases h with ⟨hv,rfl⟩ | ⟨g,off,cap,cur,hv,hg,h1,h2,h3⟩
 ·injection hv with h1 h2 h3
  exact ⟨.inl rfl,h2,by omega⟩
 ·injection hv with h4 h5 h6
  subst h4 h6
  refine ⟨.inr ⟨g,off,rfl,hS g rfl,fun k x hk j u hu=>?_⟩,h5,by omega⟩
  have hj:j<sz:=by rw [←hs x];exact (List.getElem?_eq_some_iff.1 hu).1
  have:=h3 (k*sz+j) u ((flat_at hs xs k j x hk hj).trans hu)
  rw [←Nat.add_assoc] at this
  exact cell_block hg _ _ this
theorem run_append_room_off {P:Program} (t ty e:TypeId) (i:TypeInfo) (ht:P.underlying t=some (.slice e)) (hi:P.info? e=some i) (g off sLen sCap:Nat) (cur:Array Value) (hg:w.heap[g]?=some (.cells cur e (0,0)))
  (a:Addr) (m c:Nat) (news:List Value) (hl:news.length=m*i.size) (hnews:∀ j u,news[j]?=some u→w.cell? (a.add j)=some u) (h1:∀ u∈news,u.oneCell'=true) (hroom:sLen+m≤sCap) (hfit:off+sLen*i.size+news.length≤cur.size) :
  (Builtin.append_ #[t,t] ty #[.slice (some ⟨g,off,none⟩) sLen sCap,.slice (some a) m c]).run P w =
   .ok (.slice (some ⟨g,off,none⟩) (sLen+m) sCap) (w.setRow g (cur.toList.take (off+sLen*i.size)++news++cur.toList.drop (off+sLen*i.size+news.length)).toArray):=by
 have hf:=run_firstCells_some (P:=P) w i.size m a m c news hl hnews
 have hst:=run_storeCells_at P g (off+sLen*i.size) e news 0 cur w hg (by simpa using hfit) h1
 simp only [Nat.add_zero] at hst
 simp [Builtin.append_,run_underlying ht,sizeOf,typeInfo,hi,Builtin.lenOf,hroom,hf,Addr.add_lit,hst]
theorem OwnO.app {P:Program} {t ty:TypeId} (bytes:Nat) (ht:P.underlying t=some (.slice e)) (hi:∃ i z,P.info? e=some i∧i.zero=some z∧i.size=sz∧i.bytes=bytes∧z.cells.size=sz) (hsz:0<sz)
  (hs:∀ x,(enc x).length=sz) (h1:∀ x,∀ u∈enc x,u.oneCell'=true) (h:OwnO enc sz e w v xs) (B:Nat) (A:Option Addr) (c:Nat) (hr:Row enc sz w B A ys)
  (hbytes:(xs.length+ys.length)*bytes≤140737488355328) (h63:xs.length+ys.length≤140737488355328) :
  ∃ v' w',(Builtin.append_ #[t,t] ty #[v,.slice A ys.length c]).run P w=.ok v' w'∧OwnO enc sz e w' v' (xs++ys)∧w.grownBy w' v.ownBlock∧(v'.ownBlock=v.ownBlock∨∀ k,v'.ownBlock=some k→w.heap.size≤k):=by
 rcases h with ⟨rfl,rfl⟩ | ⟨g,off,cap,cur,rfl,hg,h2,h3,h4⟩
 ·obtain ⟨v',w',hrun,hown,hg,hat,_⟩:=run_app (P:=P) w enc sz (ty:=ty) 0 e bytes ht hi hsz hs h1 (.slice none 0 0) [] Own.nil B A c ys hr hbytes h63 (Nat.zero_le _)
  exact ⟨v',w',hrun,hown.ownO,hg,hat.imp_right fun e k hk=>by rw [e] at hk;injection hk with hk;omega⟩
 ·obtain ⟨i,z,hi,hz,hsize,hby,hzs⟩:=hi
  by_cases hA:A=none
  ·subst hA
   have:ys=[]:=by
    rcases hr with h | ⟨b,o,h,_⟩
    ·exact h
    ·cases h
   subst this
   refine ⟨_,w,?_,.inr ⟨g,off,cap,cur,rfl,hg,h2,by simpa using h3,by simpa using h4⟩,World.grownBy.refl w _,.inl rfl⟩
   simp [Builtin.append_,run_underlying ht,sizeOf,typeInfo,hi,Builtin.lenOf,Builtin.firstCells,h3,storeCells]
  ·obtain ⟨ad,rfl⟩:=Option.ne_none_iff_exists'.1 hA
   have hcells:∀ j u,(ys.flatMap enc)[j]?=some u→w.cell? (ad.add j)=some u:=by
    intro j u hj
    obtain ⟨k,j',y,rfl,hj',hk,hu⟩:=flat_inv hs ys j u hj
    obtain ⟨b,o,e',_,hc⟩:=hr.at_ hk
    injection e' with e'
    subst e'
    rw [Addr.add_lit,←Nat.add_assoc]
    exact hc j' u hu
   have hone:∀ u∈ys.flatMap enc,u.oneCell'=true:=by
    intro u hu;obtain ⟨y,_,hu⟩:=List.mem_flatMap.1 hu;exact h1 y u hu
   have hly:(ys.flatMap enc).length=ys.length*i.size:=by rw [hsize];exact flat_len hs ys
   have hlx:(xs.flatMap enc).length=xs.length*i.size:=by rw [hsize];exact flat_len hs xs
   by_cases hroom:xs.length+ys.length≤cap
   ·have hm:=Nat.mul_le_mul_right i.size hroom
    rw [Nat.add_mul] at hm
    have h2':off+cap*i.size≤cur.size:=by rw [hsize];exact h2
    have hrun:=run_append_room_off (P:=P) (w:=w) t ty e i ht hi g off xs.length cap cur hg ad ys.length c (ys.flatMap enc) hly hcells hone hroom (by rw [hly];omega)
    refine ⟨_,_,hrun,.inr ⟨g,off,cap,_,by rw [List.length_append],setRow_heap w g cur _ e _ hg,?_,by rw [List.length_append];exact hroom,fun j u hj=>?_⟩,⟨rfl,rfl,rfl,by simp,fun k _ hk=>setRow_other w g k _ (fun e=>hk (by simp [Value.ownBlock,e]))⟩,.inl rfl⟩
    ·simp only [List.size_toArray,List.length_append,List.length_take,List.length_drop,Array.length_toList]
     omega
    ·rw [List.flatMap_append] at hj
     rw [List.getElem?_toArray]
     have hlt:=(List.getElem?_eq_some_iff.1 hj).1
     rw [List.length_append,hlx,hly] at hlt
     have htl:(cur.toList.take (off+xs.length*i.size)).length=off+xs.length*i.size:=by
      have hcl:cur.toList.length=cur.size:=Array.length_toList
      rw [List.length_take,hcl];omega
     rw [List.append_assoc]
     by_cases hjx:j<xs.length*i.size
     ·rw [List.getElem?_append_left (by rw [htl];omega),List.getElem?_take,if_pos (by omega),Array.getElem?_toList]
      rw [List.getElem?_append_left (by rw [hlx];exact hjx)] at hj
      exact h4 j u hj
     ·rw [List.getElem?_append_right (by rw [htl];omega),htl,List.getElem?_append_left (by rw [hly];omega)]
      rw [List.getElem?_append_right (by rw [hlx];omega),hlx] at hj
      rw [show off+j-(off+xs.length*i.size)=j-xs.length*i.size by omega]
      exact hj
   ·have holds:∀ j u,(xs.flatMap enc)[j]?=some u→w.cell? ((⟨g,off,none⟩:Addr).add j)=some u:=fun j u hj=>by
     rw [Addr.add_lit];exact cell_block hg _ _ (h4 j u hj)
    obtain ⟨v',w',hrun,hown,hgr⟩:=run_append_arg_grows (P:=P) w t ty e i z sz bytes ht hi hz hsize hby hzs hsz ⟨g,off,none⟩ xs.length cap (xs.flatMap enc) (by rw [hlx,hsize]) holds ad ys.length c (ys.flatMap enc) (by rw [hly,hsize]) hcells (by omega) (by unfold maxLen;omega) hbytes
    have hown':Own enc sz e w' w.heap.size v' (xs++ys):=by
     unfold Own
     rw [List.length_append,List.flatMap_append];exact hown
    refine ⟨v',w',hrun,hown'.ownO,⟨hgr.os,hgr.tape,hgr.output,hgr.size,fun k hk _=>hgr.block k hk (by simp)⟩,.inr fun k hk=>(hown'.lt k hk).1⟩
end
def encV (p:Int×Int):Value:=.agg #[.int .i64 p.1,.int .i64 p.2]
def okV (p:Int×Int):Prop:=okI p.1∧okI p.2
theorem keyOf_vote {a b:Int} (ha:okI a) (hb:okI b):keyOf Tryz.prog 150 (.agg #[.int .i64 a,.int .i64 b])=some (.string (keyBytes [.int .i64 a,.int .i64 b])):=by
 have wa:(Lit.int .i64 a).wf=true:=by unfold okI at ha;simp [Lit.wf,IntKind.min,IntKind.max,IntKind.bits,IntKind.signed];omega
 have wb:(Lit.int .i64 b).wf=true:=by unfold okI at hb;simp [Lit.wf,IntKind.min,IntKind.max,IntKind.bits,IntKind.signed];omega
 have hkt:Tryz.prog.keyType 150=true:=by kernel_rfl
 have hc:Tryz.prog.cellsOf 150=2:=by kernel_rfl
 have hc3:Tryz.prog.cellsOf 3=1:=by kernel_rfl
 have hm:∃ m,Tryz.prog.types.size=m+1:=⟨Tryz.prog.types.size-1,by kernel_rfl⟩
 obtain ⟨m,hm⟩:=hm
 unfold keyOf
 simp only [Tryz.underlying150]
 rw [if_pos (by simp [hkt,Value.formed,Tryz.underlying150,hc]),hm]
 unfold Program.keyLits
 simp only [Tryz.underlying150,Value.cells]
 rw [if_pos (by rw [hc];exact ⟨rfl,by simp⟩)]
 simp [hc3,Program.keyLits,Tryz.underlying3,wa,wb]
theorem KV:KeyEnc Tryz.prog 150 encV okV where
 keyed:=Maps.Keyed.of_law (deep_law (m:=3) (by omega) (by kernel_rfl) (by kernel_rfl) (by rw [Tryz.underlying150]))
 reads x hx:=⟨_,keyOf_vote hx.1 hx.2⟩
 inj x y h:=by
  unfold encV at h
  injection h with h
  have h:=congrArg Array.toList h
  simp only [List.cons.injEq,Value.int.injEq,true_and,and_true] at h
  exact Prod.ext h.1 h.2
def encK (q:LE×List Int):Value:=.agg #[.int .i64 q.1.idx,.int .i64 q.1.term,.slice q.1.A q.1.n q.1.c]
structure WG where
 L:Int
 Mo:Int
 Bt:Int
 pA:Option Addr
 pc:Nat
 sb:Nat
 so:Nat
 sc:Nat
 bn:Nat
 t:Int
 v:Int
 cm:Int
 most:Int
 ro:Int
 le:Int
 dA:Option Addr
 dn:Nat
 dc:Nat
 dl:List (LE×List Int)
 mL:Nat
 mV:Nat
 mK:Nat
 mT:Nat
 led:List (Int×Int)
 voted:List ((Int×Int)×Int)
 known:List (Int×(LE×List Int))
 tm:List (Int×Int)
 high:Int
structure Ranging (P:Program) (k:TypeId) {α β:Type} (kenc:α→Value) (venc:β→Value) (w:World) (b r:Nat) (left:List (α×β)):Prop where
 ex:∃ es clock since seen c0,w.heap[b]?=some (.map es clock)∧MapKept.Stamped es clock∧w.heap[r]?=some (.mapIter (some b) since seen c0)∧(∀ x∈es.toList,x.born<since)∧since≤c0∧since≤clock ∧
  ((leftOf es seen).toList.map (fun e=>(e.key,e.val))).Perm (left.map fun p=>(kenc p.1,venc p.2))
section
variable {P:Program} {k e t:TypeId} {α β:Type} {kenc:α→Value} {venc:β→Value} {w w':World} {b r:Nat} {l left:List (α×β)}
theorem Ranging.left_eq (h:Ranging P k kenc venc w b r left):w.rangeLeft b r=left.length:=by
 obtain ⟨es,c,s,sn,c0,h1,h2,h3,_,_,_,h4⟩:=h.ex
 simp only [World.rangeLeft,h1,h3]
 simpa using h4.length_eq
theorem MapG.range (h:MapG P k kenc venc w b l) (ht:P.underlying t=some (.map k e)) :
  ∃ w',(Instr.range t (.map (some b))).run P w=.ok (.pointer (some ⟨w.heap.size,0,none⟩)) w'∧Ranging P k kenc venc w' b w.heap.size l∧Below w.heap.size w w'∧w'.heap.size=w.heap.size+1:=by
 obtain ⟨es,clock,hb,hs,hk,hl⟩:=h.ex
 refine ⟨_,run_range_map w t k e b es clock ht hb,⟨es,clock,clock,#[],clock,block_alloc hb _,hs,World.alloc_at w _,hs.1,Nat.le_refl _,Nat.le_refl _,?_⟩,(Below.refl _ _).alloc (Nat.le_refl _) _,by simp⟩
 rw [show leftOf es #[]=es by simp [leftOf],hl]
theorem perm_filter_born {l:List MapEntry} {e:MapEntry} (hn:(l.map (·.born)).Nodup) (he:e∈l):l.Perm (e :: l.filter fun x=>x.born≠e.born):=by
 induction l with
 | nil=>simp at he
 | cons a l ih =>
  simp only [List.map_cons,List.nodup_cons] at hn
  rcases List.mem_cons.1 he with rfl | he
  ·rw [List.filter_cons_of_neg (by simp)]
   have:l.filter (fun x=>x.born≠e.born)=l:=by
    rw [List.filter_eq_self]
    intro x hx
    simp only [ne_eq,decide_not,Bool.not_eq_true',decide_eq_false_iff_not]
    exact fun e1=>hn.1 (by rw [←e1];exact List.mem_map_of_mem hx)
   rw [this]
  ·have hne:a.born≠e.born:=fun e1=>hn.1 (by rw [e1];exact List.mem_map_of_mem he)
   rw [List.filter_cons_of_pos (by simpa using hne)]
   exact ((ih hn.2 he).cons a).trans (List.Perm.swap ..)
theorem map_pairs_perm {l1:List MapEntry} {a:MapEntry} {l2:List MapEntry} (hp:l1.Perm (a :: l2)) (hl:(l1.map (fun e=>(e.key,e.val))).Perm (left.map fun p=>(kenc p.1,venc p.2))) :
  ∃ p left',left.Perm (p :: left')∧a.key=kenc p.1∧a.val=venc p.2∧(l2.map (fun e=>(e.key,e.val))).Perm (left'.map fun p=>(kenc p.1,venc p.2)):=by
 have h2:=hl.symm.trans (hp.map (fun e:MapEntry=>(e.key,e.val)))
 rw [List.map_cons] at h2
 have hm:(a.key,a.val)∈left.map fun p=>(kenc p.1,venc p.2):=h2.mem_iff.2 (by simp)
 obtain ⟨p,hpm,he⟩:=List.mem_map.1 hm
 simp only [Prod.mk.injEq] at he
 obtain ⟨s,t,rfl⟩:=List.append_of_mem hpm
 refine ⟨p,s++t,List.perm_middle,he.1.symm,he.2.symm,?_⟩
 have h3:=((List.perm_middle (a:=p) (l₁:=s) (l₂:=t)).map fun p=>(kenc p.1,venc p.2)).symm.trans h2
 rw [List.map_cons,he.1,he.2] at h3
 exact h3.cons_inv.symm
theorem Ranging.next (h:Ranging P k kenc venc w b r left) (ty:TypeId) :
  (left=[]∧(Instr.next (.pointer (some ⟨r,0,none⟩)) false ty).run P w=.ok (.tuple #[.bool false]) w) ∨
  ∃ p left' w',left.Perm (p :: left')∧(Instr.next (.pointer (some ⟨r,0,none⟩)) false ty).run P w=.ok (.tuple #[.bool true,kenc p.1,venc p.2]) w'∧Ranging P k kenc venc w' b r left'∧w.grownBy w' (some r)∧w'.heap.size=w.heap.size ∧
   (Instr.entry (.pointer (some ⟨r,0,none⟩))).run P w'=.ok (.tuple #[kenc p.1,venc p.2]) w':=by
 obtain ⟨es,clock,since,seen,c0,hb,hs,hr,hold,hsc,hsk,hl⟩:=h.ex
 have hne:r≠b:=by
  intro e
  rw [e,hb] at hr
  cases hr
 rcases run_next_at (P:=P) w ty r b since c0 seen es clock hr hb hold hsc with ⟨h0,hrun⟩ | ⟨e,he,w1,hal,hrun⟩
 ·refine .inl ⟨?_,hrun⟩
  have:leftOf es seen=#[]:=Array.eq_empty_of_size_eq_zero h0
  rw [this] at hl
  simpa using hl
 ·obtain ⟨hem,hes⟩:=mem_left he
  have hnd:((leftOf es seen).toList.map (·.born)).Nodup:=by
   unfold leftOf
   rw [Array.toList_filter]
   exact ((List.filter_sublist (l:=es.toList)).map _).nodup hs.2.1
  have hp:=perm_filter_born hnd he
  obtain ⟨p,left',hpm,hk,hv,hl'⟩:=map_pairs_perm hp hl
  have hr1:w1.heap[r]?=some (.mapIter (some b) since seen c0):=by rcases hal with rfl | rfl <;> exact hr
  have hb1:w1.heap[b]?=some (.map es clock):=by rcases hal with rfl | rfl <;> exact hb
  have hat:(ChangeMaps.setBlock w1 r (.mapIter (some b) since (seen.push e.born) clock)).heap[r]?=some (.mapIter (some b) since (seen.push e.born) clock):=by
   simp only [ChangeMaps.setBlock];rw [Array.getElem?_setIfInBounds_self_of_lt (block_lt hr1)]
  have hot:∀ i,i≠r→(ChangeMaps.setBlock w1 r (.mapIter (some b) since (seen.push e.born) clock)).heap[i]?=w1.heap[i]?:=fun i hi=>by
   simp only [ChangeMaps.setBlock];rw [Array.getElem?_setIfInBounds_ne (fun e=>hi e.symm)]
  have hb2:(ChangeMaps.setBlock w1 r (.mapIter (some b) since (seen.push e.born) clock)).heap[b]?=some (.map es clock):=(hot b (fun e=>hne e.symm)).trans hb1
  have hsz:(ChangeMaps.setBlock w1 r (.mapIter (some b) since (seen.push e.born) clock)).heap.size=w.heap.size:=by rcases hal with rfl | rfl <;> simp [ChangeMaps.setBlock]
  refine .inr ⟨p,left',_,hpm,by rw [hk,hv] at hrun;exact hrun,⟨es,clock,since,_,clock,hb2,hs,hat,hold,hsk,hsk,?_⟩,⟨by rcases hal with rfl | rfl <;> rfl,by rcases hal with rfl | rfl <;> rfl,by rcases hal with rfl | rfl <;> rfl,by omega,fun i _ hi=>?_⟩,hsz,?_⟩
  ·refine List.Perm.trans (List.Perm.of_eq ?_) hl'
   congr 1
   unfold leftOf
   rw [Array.toList_filter,Array.toList_filter,List.filter_filter]
   congr 1
   funext x
   rw [contains_push]
   by_cases hx:x.born=e.born <;> simp [hx]
  ·rw [hot i (fun e=>hi (by rw [e]))]
   rcases hal with rfl | rfl <;> rfl
  ·have:=run_entry_at (P:=P) _ r b since seen es clock e hat hb2 hem hs.2.1
   rw [hk,hv] at this
   exact this
end
section
variable {P:Program} {α β:Type} {kenc:α→Value} {venc:β→Value} {ops:Array Oper} {rest:List Oper} {o:Oper} {a:Act} {Q:Exit→Act→World→Prop} (w:World)
theorem wp_range (hg:o.guard=none) (m:Operand) (t:TypeId) (hop:o.op=Op.range t m) (k e:TypeId) (ht:P.underlying t=some (.map k e)) (b:Nat) (l:List (α×β)) (hm:a.eval m=.map (some b)) (h:MapG P k kenc venc w b l)
  (hK:∀ w',Ranging P k kenc venc w' b w.heap.size l→Below w.heap.size w w'→w'.heap.size=w.heap.size+1→wpList P ops Q rest (a.put o.dst (.pointer (some ⟨w.heap.size,0,none⟩))) w'):wpList P ops Q (o :: rest) a w:=by
 refine wpList_plain hg fun K' hK'=>?_
 obtain ⟨w',hrun,r1,r2,r3⟩:=h.range ht
 unfold Oper.wp
 simp [execOp,hop,hm,hrun,Result.andThen]
 exact hK' _ _ (hK w' r1 r2 r3)
theorem wp_next (hg:o.guard=none) (it:Operand) (hop:o.op=Op.next it false) (k:TypeId) (b r:Nat) (left:List (α×β)) (hit:a.eval it=.pointer (some ⟨r,0,none⟩)) (h:Ranging P k kenc venc w b r left)
  (hDone:left=[]→wpList P ops Q rest (a.put o.dst (.tuple #[.bool false])) w)
  (hMore:∀ p left' w',left.Perm (p :: left')→Ranging P k kenc venc w' b r left'→w.grownBy w' (some r)→w'.heap.size=w.heap.size→(Instr.entry (.pointer (some ⟨r,0,none⟩))).run P w'=.ok (.tuple #[kenc p.1,venc p.2]) w' →
   wpList P ops Q rest (a.put o.dst (.tuple #[.bool true,kenc p.1,venc p.2])) w'):wpList P ops Q (o :: rest) a w:=by
 refine wpList_plain hg fun K' hK'=>?_
 unfold Oper.wp
 rcases h.next o.type with ⟨h0,hrun⟩ | ⟨p,left',w',hp,hrun,hr,hg,hs,hen⟩
 ·simp [execOp,hop,hit,hrun,Result.andThen]
  exact hK' _ _ (hDone h0)
 ·simp [execOp,hop,hit,hrun,Result.andThen]
  exact hK' _ _ (hMore p left' w' hp hr hg hs hen)
end
end Go.Proofs.YtocogcgnahbpkaaGreat
