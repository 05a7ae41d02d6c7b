import Derived.Test.YtocogcgnahbpkaaGreatC6
namespace Go.Proofs.YtocogcgnahbpkaaGreat.Rf
section
variable {n:Nat} {nd nd0:Nat→Nd} {g g' g0:Gh} {net net' r o:List Msg} {i f:Nat} {s s':Nd} {ms ms':List Msg} {c:Cfg} {draw:Int} {d:Nat→Int} {m x:Msg} {K:Nat}
theorem run_add (c:Cfg) (d:Nat→Int) (j:Nat):∀ (k:Nat) (w:Wd),w.run c d (j+k)=(w.run c d j).run c d k:=by
 induction j with
 | zero=>intro k w;rw [Nat.zero_add];rfl
 | succ j ih=>intro k w;rw [Nat.succ_add];exact ih k _
theorem run_fix {w:Wd} (h:w.net=[]) (k:Nat):w.run c d k=w:=by
 induction k with
 | zero=>rfl
 | succ k ih =>
  show Wd.run c d k (w.arr c d)=w
  have:w.arr c d=w:=by unfold Wd.arr;rw [h]
  rw [this];exact ih
theorem runs_eq {w:Wd} {j k:Nat} (hj:(w.run c d j).net=[]) (hk:(w.run c d k).net=[]):w.run c d j=w.run c d k:=by
 rcases Nat.le_total j k with h | h
 ·obtain ⟨e,rfl⟩:=Nat.le.dest h
  rw [run_add,run_fix hj]
 ·obtain ⟨e,rfl⟩:=Nat.le.dest h
  rw [run_add,run_fix hk]
structure Still (c:Cfg) (d:Nat→Int) (f:Nat) (w w':Wd) (g g':Gh):Prop where
 com:Com c d f w.nd g g' w'.nd w'.net
 beat:∀ p,1≤p→p≤c.n→(w'.nd p).role=4→(w'.nd p).beat=(w.nd p).beat+1∧(w.nd p).beat+1<c.beat
theorem mem_ask (h:x∈ask c s):x.kind=1∧x.src=s.id∧x.term=s.term+1∧x.idx=s.fin∧x.lt=s.tm s.fin∧x.dst∈others c s.id:=by
 obtain ⟨p,hp,rfl⟩:=List.mem_map.1 h
 exact ⟨rfl,rfl,rfl,rfl,rfl,hp⟩
theorem ask_mem {p:Nat} (hp:p∈others c s.id):∃ x∈ask c s,x.kind=1∧x.src=s.id∧x.dst=p∧x.term=s.term+1∧x.idx=s.fin∧x.lt=s.tm s.fin:=⟨_,List.mem_map.2 ⟨p,hp,rfl⟩,rfl,rfl,rfl,rfl,rfl,rfl⟩
theorem tick1_kinds {w:Wd} (h:Ok c K w g) (h2:2≤c.n) (h0:w.net=[]) (hx:x∈(tick1 c d w).net):(bg c w.nd x.src∧x∈ask c (w.nd x.src))∨(x.kind=5∧(w.nd x.src).role=4):=by
 obtain ⟨p,hp,hxp⟩:=(tick1_net h0).1 hx
 have hid:=h.inv.ids p
 rcases (h.tkd (d:=d) h2 p).cases with ⟨_,_,b⟩ | ⟨a1,a2,b⟩ | b | b
 ·rw [b] at hxp;exact absurd hxp (by simp)
 ·rw [b] at hxp
  have hxp:x∈ask c (w.nd p):=hxp
  have:=mem_ask hxp
  have hs:x.src=p:=by rw [this.2.1,hid]
  rw [hs]
  exact .inl ⟨⟨hp,a1,a2⟩,hxp⟩
 ·rw [b.2.2.2.2.2] at hxp;exact absurd hxp (by simp)
 ·rcases b.2.2 with e | e
  ·rw [e.2] at hxp
   obtain ⟨a,q,_,hq⟩:=mem_apps hxp
   have hs:x.src=p:=by rw [hq];show (tick c (d p) (w.nd p)).1.id=p;rw [(h.tkd h2 p).id,hid]
   rw [hs]
   exact .inr ⟨a,b.1⟩
  ·rw [e.2.2] at hxp;exact absurd hxp (by simp)
theorem tick1_bg {w:Wd} (h:Ok c K w g) (h2:2≤c.n) {p:Nat} (hp:bg c w.nd p):(tick1 c d w).nd p={ (w.nd p) with elapsed:=0,timeout:=rnd c (d p),role:=2,leader:=0,gr:=[(w.nd p).id] }∧(tick c (d p) (w.nd p)).2=ask c (w.nd p):=by
 rw [tick1_nd hp.1]
 rcases (h.tkd (d:=d) h2 p).cases with ⟨_,a,_⟩ | ⟨a1,a2,b⟩ | b | b
 ·have:=hp.2.2;omega
 ·rw [b];exact ⟨rfl,rfl⟩
 ·exact absurd b.1 hp.2.1
 ·exact absurd b.1 hp.2.1
theorem tick1_ask {w:Wd} (h:Ok c K w g) (h2:2≤c.n) (h0:w.net=[]) {L p:Nat} (hL:bg c w.nd L) (hp:1≤p∧p≤c.n) (hne:p≠L):∃ x∈(tick1 c d w).net,x.kind=1∧x.src=L∧x.dst=p∧x.term=(w.nd L).term+1∧x.idx=(w.nd L).fin∧x.lt=(w.nd L).tm (w.nd L).fin:=by
 have hid:=h.inv.ids L
 obtain ⟨x,hx,a,b,e⟩:=ask_mem (c:=c) (s:=w.nd L) (p:=p) (mem_others.2 ⟨hp,by rw [hid];exact hne⟩)
 exact ⟨x,(tick1_net h0).2 ⟨L,hL.1,by rw [(tick1_bg (d:=d) h h2 hL).2];exact hx⟩,a,by rw [b,hid],e⟩
theorem tick1_term {w:Wd} (h:Ok c K w g) (h2:2≤c.n) (p:Nat):((tick1 c d w).nd p).term=(w.nd p).term∧((tick1 c d w).nd p).log=(w.nd p).log∧((tick1 c d w).nd p).vote=(w.nd p).vote:=by
 by_cases hp:1≤p∧p≤c.n
 ·rw [tick1_nd hp];exact ⟨(h.tkd h2 p).term,(h.tkd h2 p).log,(h.tkd h2 p).vote⟩
 ·rw [tick1_out hp];exact ⟨rfl,rfl,rfl⟩
theorem tick_any (hc:CfgOK c) (h2:2≤c.n) {w:Wd} (h:Ok c K w g) (h0:w.net=[]) (hb0:∀ p,upTo (w.nd f).log (w.nd p).log) (hK:K+c.n<65536) :
  ∃ j g',((tick1 c d w).run c d j).net=[]∧Ok c (K+c.n) ((tick1 c d w).run c d j) g'∧Ext w.nd ((tick1 c d w).run c d j).nd g g'∧((∃ L T,(1≤L∧L≤c.n)∧Led c L T ((tick1 c d w).run c d j).nd)∨Still c d f w ((tick1 c d w).run c d j) g g'):=by
 have hl0:∀ p,(w.nd p).role=4→(w.nd p).tm (w.nd p).fin=(w.nd p).term:=fun p=>(h.soft p).last
 obtain ⟨g1,h1,e1⟩:=h.tick1 (d:=d) hc hK
 have hC:=Com.start (d:=d) h h2 h0 hb0 h1.inv e1
 have hOK:∀ {nd net g},Ok c (K+c.n) ⟨nd,net⟩ g→(⟨nd,net⟩:Wd).OK c g:=fun hO=>⟨hO.inv,fun i=>(hO.soft i).role⟩
 have hV1:V1 c w.nd (tick1 c d w).nd (tick1 c d w).net []:=by
  refine ⟨fun x hx=>?_,fun x hx=>absurd hx (by simp),fun L hL=>?_,fun L hL hr hA=>?_⟩
  ·rcases tick1_kinds h h2 h0 hx with ⟨a,b⟩ | b
   ·exact .inl ⟨(mem_ask b).1,a,(mem_ask b).2.2.1⟩
   ·exact .inr b.1
  ·rw [(tick1_bg h h2 hL).1];show ¬ ((2:Nat)=3);omega
  ·obtain ⟨p,hp,ht⟩:=hA
   have hne:p≠L:=fun e=>by subst e;rw [(tick1_term h h2 p).1] at ht;omega
   obtain ⟨x,hx,a,b,e,_⟩:=tick1_ask (d:=d) h h2 h0 hL hp hne
   exact .inl ⟨p,hp,ht,x,hx,a,b,e⟩
 have hold:∀ {nd r o m} {g g':Gh},Ok c (K+c.n) ⟨nd,m :: r++o⟩ g→Ok c (K+c.n) ⟨setN nd m.dst (message c (d m.dst) m (nd m.dst)).1,r++(o++(message c (d m.dst) m (nd m.dst)).2)⟩ g'→Ext nd (setN nd m.dst (message c (d m.dst) m (nd m.dst)).1) g g'→∀ L T,LDn c L T ⟨nd,m :: r++o⟩→LDn c L T ⟨setN nd m.dst (message c (d m.dst) m (nd m.dst)).1,r++(o++(message c (d m.dst) m (nd m.dst)).2)⟩:=by
  intro nd r o m g g' hO hO' hE L T hL
  have hI':=hO'.inv
  rw [←List.append_assoc] at hI' ⊢
  exact LDn.arr (d:=d) hL (hOK hO) ⟨g',hI'⟩ hE.tm (by simp)
 obtain ⟨g2,nd2,l2,r2,O2,E2,C2,V2',D2⟩:=Ok.phase hc d (fun y nd r o=>Com c d f w.nd g y nd (r++o)∧V1 c w.nd nd r o∧∀ L T,LDn c L T (tick1 c d w)→LDn c L T ⟨nd,r++o⟩)
  (fun nd m r o g g' hO hp hO' hE=>by
   obtain ⟨hp1,hp2,hp3⟩:=hp
   refine ⟨hp1.step h.inv hb0 hl0 hO.inv (by simp) (hO.soft _) (fun x hx=>?_) hO'.inv hE (no_lead h2 ?_),hp2.step hO.inv hE.tm,fun L T hL=>hold hO hO' hE L T (hp3 L T hL)⟩
   ·rw [←List.append_assoc] at hx
    rcases List.mem_append.1 hx with y | y
    ·exact .inl (by rcases List.mem_append.1 y with z | z <;> simp [z])
    ·exact .inr y
   ·rcases hp2.rk m (by simp) with k | k <;> omega)
  (tick1 c d w).net (tick1 c d w).nd [] g1 (by rw [List.append_nil];exact h1) ⟨by rw [List.append_nil];exact hC,hV1,fun L T hL=>by rw [List.append_nil];exact hL⟩
 rw [List.append_nil] at r2
 have hV2:V2 c w.nd nd2 l2 []:=by
  refine ⟨V2'.ok,fun x hx=>absurd hx (by simp),fun L hL hr hA=>?_⟩
  rcases hr with hr | hr
  ·rcases V2'.v L hL hr hA with ⟨_,_,_,x,hx,_⟩ | y
   ·exact absurd hx (by simp)
   ·exact .inl y
  ·exact absurd hr (V2'.rl L hL)
 obtain ⟨g3,nd3,l3,r3,O3,E3,C3,V3',D3⟩:=Ok.phase hc d (fun y nd r o=>Com c d f w.nd g y nd (r++o)∧V2 c w.nd nd r o∧∀ L T,LDn c L T (tick1 c d w)→LDn c L T ⟨nd,r++o⟩)
  (fun nd m r o g g' hO hp hO' hE=>by
   obtain ⟨hp1,hp2,hp3⟩:=hp
   refine ⟨hp1.step h.inv hb0 hl0 hO.inv (by simp) (hO.soft _) (fun x hx=>?_) hO'.inv hE (no_lead h2 ?_),hp2.step h2 hO.inv hp1.bgs,fun L T hL=>hold hO hO' hE L T (hp3 L T hL)⟩
   ·rw [←List.append_assoc] at hx
    rcases List.mem_append.1 hx with y | y
    ·exact .inl (by rcases List.mem_append.1 y with z | z <;> simp [z])
    ·exact .inr y
   ·rcases hp2.rk m (by simp) with k | k <;> omega)
  l2 nd2 [] g2 (by rw [List.append_nil];exact O2) ⟨by rw [List.append_nil];exact C2,hV2,fun L T hL=>by rw [List.append_nil];exact D2 L T hL⟩
 rw [List.append_nil] at r3
 have hV3:V3 c w.nd nd3 l3 []:=by
  refine ⟨V3'.ok,fun x hx=>absurd hx (by simp),fun L hL hr hA=>?_⟩
  rcases V3'.v L hL hr hA with ⟨x,hx,_⟩ | y
  ·exact absurd hx (by simp)
  ·exact y
 obtain ⟨g4,nd4,l4,r4,O4,E4,C4,V4',D4⟩:=Ok.phase hc d (fun y nd r o=>Com c d f w.nd g y nd (r++o)∧V3 c w.nd nd r o∧∀ L T,LDn c L T (tick1 c d w)→LDn c L T ⟨nd,r++o⟩)
  (fun nd m r o g g' hO hp hO' hE=>by
   obtain ⟨hp1,hp2,hp3⟩:=hp
   refine ⟨hp1.step h.inv hb0 hl0 hO.inv (by simp) (hO.soft _) (fun x hx=>?_) hO'.inv hE (no_lead h2 ?_),hp2.step hO.inv (hO.soft _) hp1.bgs,fun L T hL=>hold hO hO' hE L T (hp3 L T hL)⟩
   ·rw [←List.append_assoc] at hx
    rcases List.mem_append.1 hx with y | y
    ·exact .inl (by rcases List.mem_append.1 y with z | z <;> simp [z])
    ·exact .inr y
   ·rcases hp2.rk m (by simp) with k | k <;> omega)
  l3 nd3 [] g3 (by rw [List.append_nil];exact O3) ⟨by rw [List.append_nil];exact C3,hV3,fun L T hL=>by rw [List.append_nil];exact D3 L T hL⟩
 rw [List.append_nil] at r4
 have hV4:V4 c d f w.nd g g4 nd4 l4:=⟨fun x hx=>by rcases V4'.ok x hx with y | y;exact .inl y;exact .inr (.inr y),.inl ⟨C4,fun L hL hr hA=>by obtain ⟨x,hx,_⟩:=V4'.v L hL hr hA;exact absurd hx (by simp)⟩⟩
 obtain ⟨j,g5,_,n5,_,O5,⟨V5,D5⟩,E5⟩:=Ok.ends hc d (fun y w'=>V4 c d f w.nd g y w'.nd w'.net∧∀ L T,LDn c L T (tick1 c d w)→LDn c L T w')
  (fun w' g g' hO hp hne hO' hE=>by
   obtain ⟨nd,net⟩:=w'
   match net,hne with
   | m :: r,_=>exact ⟨hp.1.step h.inv hb0 hl0 hO hO' hE,fun L T hL=>LDn.arr (d:=d) (hp.2 L T hL) (hOK hO) ⟨g',hO'.inv⟩ hE.tm (by simp)⟩)
  _ ⟨nd4,l4⟩ g4 O4 ⟨hV4,D4⟩ (Nat.le_refl _)
 have hrun:(tick1 c d w).run c d ((tick1 c d w).net.length+(l2.length+(l3.length+j)))=(⟨nd4,l4⟩:Wd).run c d j:=by
  rw [run_add,r2,run_add,r3,run_add,r4]
 rw [←hrun] at n5 O5 V5 D5 E5
 refine ⟨_,g5,n5,O5,e1.trans (E2.trans (E3.trans (E4.trans E5))),?_⟩
 generalize (tick1 c d w).run c d ((tick1 c d w).net.length+(l2.length+(l3.length+j)))=w' at n5 O5 V5 D5 E5 ⊢
 rcases V5.alt with ⟨hC5,_⟩ | ⟨L,T,hL,hLT,_,hD⟩
 ·by_cases hx:∃ p,(1≤p∧p≤c.n)∧(w'.nd p).role=4∧(tick c (d p) (w.nd p)).2=apps c (tick c (d p) (w.nd p)).1
  ·left
   obtain ⟨p,hp,hr,ha⟩:=hx
   have hb:=hC5.beat p hp.1 hp.2 hr
   have hl:=hC5.led p hr
   refine ⟨p,(w.nd p).term,hp,LDn.done (D5 p (w.nd p).term fun _=>?_) n5 ⟨hr,hl.2.1⟩⟩
   have hall:∀ q,1≤q→q≤c.n→q≠p→Wrote (tick1 c d w).net p (w.nd p).term q:=fun q h1 h2' h3=>by
    have hid:(tick c (d p) (w.nd p)).1.id=p:=by rw [(h.tkd h2 p).id,h.inv.ids]
    refine ⟨app c (tick c (d p) (w.nd p)).1 q,(tick1_net h0).2 ⟨p,hp,by rw [ha];exact List.mem_map.2 ⟨q,mem_others.2 ⟨⟨h1,h2'⟩,by rw [hid];exact h3⟩,rfl⟩⟩,rfl,hid,rfl,(h.tkd h2 p).term⟩
   refine ⟨fun q h1 h2' h3=>.inl (hall q h1 h2' h3),fun ⟨q,hq,ht⟩=>.inr ⟨q,hq,ht,hall q hq.1 hq.2 fun e=>?_⟩⟩
   subst e
   rw [(tick1_term h h2 q).1] at ht
   omega
  ·right
   refine ⟨hC5,fun p h1 h2' hr=>?_⟩
   have hb:=hC5.beat p h1 h2' hr
   rcases (h.tkd (d:=d) h2 p).cases with ⟨a,_,b⟩ | ⟨_,_,b⟩ | b | b
   ·have:=hb.1;rw [b] at this;exact absurd this a
   ·have:=hb.1;rw [b] at this;exact absurd (show (2:Nat)=4 from this) (by omega)
   ·omega
   ·rcases b.2.2 with e | e
    ·exact absurd ⟨p,⟨h1,h2'⟩,hr,e.2⟩ hx
    ·exact ⟨by rw [hb.2,e.1],e.2.1⟩
 ·exact .inl ⟨L,T,hL,hD.done n5 hLT⟩
end
section
variable {n:Nat} {nd nd0:Nat→Nd} {g g' g0:Gh} {net net' r o:List Msg} {i f:Nat} {s s':Nd} {ms ms':List Msg} {c:Cfg} {draw:Int} {d:Nat→Int} {m x:Msg} {K:Nat}
theorem preVote_out (hk:m.kind=1):(message c draw m s).2=[]∧s.term<m.term∧led c s=true∨∃ x,(message c draw m s).2=[x]∧x.kind=2∧x.dst=m.src∧x.src=s.id∧((x.rej=true∧x.term=s.term∧(m.term≤s.term∨good m s=false))∨(x.rej=false∧x.term=m.term∧s.term<m.term)):=by
 unfold message
 split
 ·rename_i h;exact .inl ⟨rfl,h.2⟩
 ·rw [if_neg (by omega)]
  split
  ·rename_i h
   right
   unfold old
   rw [if_neg (by omega),if_pos hk]
   exact ⟨_,rfl,rfl,rfl,rfl,.inl ⟨rfl,rfl,.inl (by omega)⟩⟩
  ·right
   unfold kinds
   simp only [hk]
   unfold preVote
   split
   ·rename_i h;exact ⟨_,rfl,rfl,rfl,rfl,.inr ⟨rfl,rfl,h.1⟩⟩
   ·rename_i h
    refine ⟨_,rfl,rfl,rfl,rfl,.inl ⟨rfl,rfl,?_⟩⟩
    rcases Nat.lt_or_ge s.term m.term with y | y
    ·right
     cases hg:good m s with
     | false=>rfl
     | true=>exact absurd ⟨y,hg⟩ h
    ·exact .inl y
theorem preVote_le (hk:m.kind=1) (ht:m.term≤s.term):∃ x,(message c draw m s).2=[x]∧x.kind=2∧x.dst=m.src∧x.src=s.id∧x.rej=true∧x.term=s.term:=by
 rcases preVote_out (c:=c) (draw:=draw) (s:=s) hk with y | ⟨x,a,b,e,e',y | y⟩
 ·omega
 ·exact ⟨x,a,b,e,e',y.1,y.2.1⟩
 ·omega
theorem preVote_yes (hk:m.kind=1) (ht:s.term<m.term) (hl:led c s=false) (hg:good m s=true):∃ x,(message c draw m s).2=[x]∧x.kind=2∧x.dst=m.src∧x.src=s.id∧x.rej=false∧x.term=m.term:=by
 rcases preVote_out (c:=c) (draw:=draw) (s:=s) hk with y | ⟨x,a,b,e,e',y | y⟩
 ·rw [hl] at y;exact absurd y.2.2 (by simp)
 ·rcases y.2.2 with z | z
  ·omega
  ·rw [hg] at z;exact absurd z (by simp)
 ·exact ⟨x,a,b,e,e',y.1,y.2.1⟩
def votes (c:Cfg) (s:Nd):List Msg:=(others c s.id).map fun p=>{ kind:=3,src:=s.id,dst:=p,term:=s.term+1,idx:=s.fin,lt:=s.tm s.fin }
theorem kind2_cases (h2:2≤c.n) (hk:m.kind=2) :
  ((message c draw m s).1=s∧(message c draw m s).2=[]∧(m.rej=true→m.term≤s.term)∧(s.role=2→m.rej=false→m.term=s.term+1→False))
  ∨(m.rej=true∧s.term<m.term∧(message c draw m s).1=follow c draw m.term 0 s∧(message c draw m s).2=[])
  ∨(s.role=2∧m.rej=false∧m.term=s.term+1∧¬ (maj c (put s.gr m.src).length=true)∧(message c draw m s).1={ s with gr:=put s.gr m.src }∧(message c draw m s).2=[])
  ∨(s.role=2∧m.rej=false∧m.term=s.term+1∧maj c (put s.gr m.src).length=true∧(message c draw m s).1=rest c draw { s with term:=s.term+1,vote:=s.id,role:=3,leader:=0,gr:=[s.id],rf:=[] }∧(message c draw m s).2=votes c s):=by
 have hkp:∀ s1,kinds c draw m s1=preReply c draw m s1:=fun s1=>by unfold kinds;simp only [hk]
 unfold message
 rw [if_neg (by omega)]
 by_cases hh:s.term<m.term∧m.kind≠1∧(m.kind≠2∨m.rej=true)
 ·rw [if_pos hh,hkp]
  have hj:m.rej=true:=hh.2.2.resolve_left fun x=>x hk
  have:preReply c draw m (follow c draw m.term (if m.kind=5 then m.src else 0) s)=(follow c draw m.term (if m.kind=5 then m.src else 0) s,[]):=by unfold preReply;rw [if_pos (.inr (.inl hj))]
  rw [this,if_neg (show ¬ m.kind=5 by omega)]
  exact .inr (.inl ⟨hj,hh.1,rfl,rfl⟩)
 ·rw [if_neg hh]
  have hrej:m.rej=true→m.term≤s.term:=fun hj=>Nat.le_of_not_lt fun hl=>hh ⟨hl,by omega,.inr hj⟩
  by_cases hlow:m.term<s.term
  ·rw [if_pos hlow]
   left
   refine ⟨rfl,?_,hrej,fun _ _ h=>by omega⟩
   unfold old
   rw [if_neg (by omega),if_neg (by omega),if_neg (by omega)]
  ·rw [if_neg hlow,hkp]
   unfold preReply
   by_cases hc:s.role≠2∨m.rej=true∨m.term≠s.term+1
   ·rw [if_pos hc]
    left
    refine ⟨rfl,rfl,hrej,fun a b e=>?_⟩
    rcases hc with y | y | y
    ·exact y a
    ·rw [b] at y;exact absurd y (by simp)
    ·exact y e
   ·rw [if_neg hc]
    have h1:s.role=2:=Classical.byContradiction fun h=>hc (.inl h)
    have h3:m.term=s.term+1:=Classical.byContradiction fun h=>hc (.inr (.inr h))
    have h4:m.rej=false:=by
     cases hb:m.rej with
     | false=>rfl
     | true=>exact absurd (.inr (.inl hb)) hc
    simp only
    by_cases hm:maj c (put s.gr m.src).length=true
    ·rw [if_pos hm]
     right;right;right
     refine ⟨h1,h4,h3,hm,?_⟩
     unfold stand
     simp only
     rw [if_neg (maj1 h2)]
     exact ⟨rfl,rfl⟩
    ·rw [if_neg hm]
     exact .inr (.inr (.inl ⟨h1,h4,h3,hm,rfl,rfl⟩))
theorem kind3_cases (hk:m.kind=3) :
  (s.term<m.term∧led c s=true∧(message c draw m s).1=s∧(message c draw m s).2=[])
  ∨(m.term<s.term∧(message c draw m s).1=s∧∃ x,(message c draw m s).2=[x]∧x.kind=4∧x.dst=m.src∧x.src=s.id∧x.rej=true∧x.term=s.term)
  ∨(s.term≤m.term∧(s.term<m.term→led c s=false)∧∃ s1,s1=(if s.term<m.term then follow c draw m.term 0 s else s) ∧
    ((good m s1=true∧(s1.vote=m.src∨(s1.vote=0∧s1.leader=0))∧(message c draw m s).1=rest c draw { s1 with vote:=m.src }∧∃ x,(message c draw m s).2=[x]∧x.kind=4∧x.dst=m.src∧x.src=s.id∧x.rej=false∧x.term=m.term)
    ∨(¬ (good m s1=true∧(s1.vote=m.src∨(s1.vote=0∧s1.leader=0)))∧(message c draw m s).1=s1∧∃ x,(message c draw m s).2=[x]∧x.kind=4∧x.dst=m.src∧x.src=s.id∧x.rej=true∧x.term=m.term))):=by
 have hkp:∀ s1,kinds c draw m s1=vote c draw m s1:=fun s1=>by unfold kinds;simp only [hk]
 have key:∀ s1:Nd,s1.term=m.term→s1.id=s.id→(good m s1=true∧(s1.vote=m.src∨(s1.vote=0∧s1.leader=0))∧(vote c draw m s1).1=rest c draw { s1 with vote:=m.src }∧∃ x,(vote c draw m s1).2=[x]∧x.kind=4∧x.dst=m.src∧x.src=s.id∧x.rej=false∧x.term=m.term)
    ∨(¬ (good m s1=true∧(s1.vote=m.src∨(s1.vote=0∧s1.leader=0)))∧(vote c draw m s1).1=s1∧∃ x,(vote c draw m s1).2=[x]∧x.kind=4∧x.dst=m.src∧x.src=s.id∧x.rej=true∧x.term=m.term):=fun s1 ht hid=>by
  unfold vote
  by_cases hc:good m s1=true∧(s1.vote=m.src∨(s1.vote=0∧s1.leader=0))
  ·rw [if_pos hc]
   exact .inl ⟨hc.1,hc.2,rfl,_,rfl,rfl,rfl,hid,rfl,ht⟩
  ·rw [if_neg hc]
   exact .inr ⟨hc,rfl,_,rfl,rfl,rfl,hid,rfl,ht⟩
 unfold message
 by_cases h1:(m.kind=1∨m.kind=3)∧s.term<m.term∧led c s=true
 ·rw [if_pos h1]
  exact .inl ⟨h1.2.1,h1.2.2,rfl,rfl⟩
 ·rw [if_neg h1]
  have hled:s.term<m.term→led c s=false:=fun hl=>by
   cases hb:led c s with
   | false=>rfl
   | true=>exact absurd ⟨.inr hk,hl,hb⟩ h1
  by_cases hh:s.term<m.term∧m.kind≠1∧(m.kind≠2∨m.rej=true)
  ·rw [if_pos hh,hkp,if_neg (show ¬ m.kind=5 by omega)]
   right;right
   refine ⟨by omega,hled,_,rfl,?_⟩
   rw [if_pos hh.1]
   exact key _ (by show max s.term m.term=m.term;omega) rfl
  ·rw [if_neg hh]
   have hle:m.term≤s.term:=Nat.le_of_not_lt fun hl=>hh ⟨hl,by omega,.inl (by omega)⟩
   by_cases hlow:m.term<s.term
   ·rw [if_pos hlow]
    right;left
    refine ⟨hlow,rfl,?_⟩
    unfold old
    rw [if_neg (by omega),if_neg (by omega),if_pos hk]
    exact ⟨_,rfl,rfl,rfl,rfl,rfl,rfl⟩
   ·rw [if_neg hlow,hkp]
    right;right
    refine ⟨by omega,hled,_,rfl,?_⟩
    rw [if_neg (show ¬ s.term<m.term by omega)]
    exact key s (by omega) rfl
theorem kind4_cases (hk:m.kind=4) (h4':(message c draw m s).1.role≠4):(message c draw m s).2=[] ∧
  (((message c draw m s).1.elapsed=s.elapsed∧(message c draw m s).1.timeout=s.timeout∧(message c draw m s).1.leader=s.leader∧(message c draw m s).1.term=s.term∧(message c draw m s).1.vote=s.vote)
    ∨((message c draw m s).1.elapsed=0∧(message c draw m s).1.timeout=rnd c draw∧(message c draw m s).1.leader=0)):=by
 have hkp:∀ s1,kinds c draw m s1=voteReply c draw m s1:=fun s1=>by unfold kinds;simp only [hk]
 unfold message at h4' ⊢
 rw [if_neg (by omega)] at h4' ⊢
 by_cases hh:s.term<m.term∧m.kind≠1∧(m.kind≠2∨m.rej=true)
 ·rw [if_pos hh] at h4' ⊢
  rw [hkp,if_neg (show ¬ m.kind=5 by omega)]
  have:voteReply c draw m (follow c draw m.term 0 s)=(follow c draw m.term 0 s,[]):=by unfold voteReply;rw [if_pos (by show ¬ ((1:Nat)=3);omega)]
  rw [this]
  exact ⟨rfl,.inr ⟨rfl,rfl,rfl⟩⟩
 ·rw [if_neg hh] at h4' ⊢
  by_cases hlow:m.term<s.term
  ·rw [if_pos hlow]
   refine ⟨?_,.inl ⟨rfl,rfl,rfl,rfl,rfl⟩⟩
   unfold old
   rw [if_neg (by omega),if_neg (by omega),if_neg (by omega)]
  ·rw [if_neg hlow] at h4' ⊢
   rw [hkp] at h4' ⊢
   unfold voteReply at h4' ⊢
   split at h4'
   ·rename_i h1;rw [if_pos h1];exact ⟨rfl,.inl ⟨rfl,rfl,rfl,rfl,rfl⟩⟩
   ·rename_i h1
    rw [if_neg h1]
    split at h4'
    ·rename_i h2
     rw [if_pos h2]
     simp only at h4' ⊢
     split at h4'
     ·exact absurd lead_role h4'
     ·rename_i h3;rw [if_neg h3];exact ⟨rfl,.inl ⟨rfl,rfl,rfl,rfl,rfl⟩⟩
    ·rename_i h2
     rw [if_neg h2]
     simp only at h4' ⊢
     have h5:(if m.src∈s.gr then s else { s with rf:=put s.rf m.src }).elapsed=s.elapsed∧(if m.src∈s.gr then s else { s with rf:=put s.rf m.src }).timeout=s.timeout∧(if m.src∈s.gr then s else { s with rf:=put s.rf m.src }).leader=s.leader∧(if m.src∈s.gr then s else { s with rf:=put s.rf m.src }).term=s.term∧(if m.src∈s.gr then s else { s with rf:=put s.rf m.src }).vote=s.vote:=by split <;> exact ⟨rfl,rfl,rfl,rfl,rfl⟩
     generalize (if m.src∈s.gr then s else { s with rf:=put s.rf m.src })=s1 at h4' h5 ⊢
     split at h4'
     ·rename_i h3;rw [if_pos h3];exact ⟨rfl,.inr ⟨rfl,rfl,rfl⟩⟩
     ·rename_i h3;rw [if_neg h3];exact ⟨rfl,.inl h5⟩
theorem kind4_grant (hk:m.kind=4) (h3:s.role=3) (ht:m.term=s.term) (hj:m.rej=false) (h4':(message c draw m s).1.role≠4):(message c draw m s).1.role=3∧(message c draw m s).1.term=s.term∧(message c draw m s).1.gr=put s.gr m.src:=by
 have hkp:∀ s1,kinds c draw m s1=voteReply c draw m s1:=fun s1=>by unfold kinds;simp only [hk]
 unfold message at h4' ⊢
 rw [if_neg (by omega),if_neg (by omega),if_neg (by omega)] at h4' ⊢
 rw [hkp] at h4' ⊢
 unfold voteReply at h4' ⊢
 rw [if_neg (by omega),if_pos hj] at h4' ⊢
 simp only at h4' ⊢
 split at h4'
 ·exact absurd lead_role h4'
 ·rename_i h1;rw [if_neg h1];exact ⟨h3,rfl,rfl⟩
end
def unprot (c:Cfg) (nd0:Nat→Nd) (p:Nat):Prop:=(nd0 p).leader=0∨c.least≤(nd0 p).elapsed+1
structure Less (c:Cfg) (K:Nat) (f M:Nat) (w:Wd) (g:Gh):Prop where
 ok:Ok c K w g
 n2:2≤c.n
 net:w.net=[]
 nl:∀ p,(w.nd p).role≠4
 best:∀ p,upTo (w.nd f).log (w.nd p).log
 f:1≤f∧f≤c.n
 M:∀ p,1≤p→p≤c.n→(w.nd p).term≤M
section
variable {n:Nat} {nd nd0:Nat→Nd} {g g' g0:Gh} {net net' r o:List Msg} {i f M:Nat} {s s':Nd} {ms ms':List Msg} {c:Cfg} {draw:Int} {d:Nat→Int} {m x:Msg} {K:Nat} {w:Wd}
theorem Less.nd1 (h:Less c K f M w g) {p:Nat} (hp:1≤p∧p≤c.n) (hb:¬ bg c w.nd p):(tick1 c d w).nd p={ (w.nd p) with elapsed:=(w.nd p).elapsed+1 }:=by
 rw [tick1_nd hp]
 have hr:=h.nl p
 have ht:(w.nd p).elapsed+1<(w.nd p).timeout:=Nat.lt_of_not_le fun hle=>hb ⟨hp,hr,hle⟩
 rw [tick_wait hr ht]
theorem led_role {s:Nd} (h:s.role≠4) (h':s.leader=0∨c.least≤s.elapsed):led c s=false:=by
 unfold led
 have:(s.role==4)=false:=by simp [h]
 rw [this]
 rcases h' with y | y
 ·rw [y];simp
 ·have:decide (s.elapsed<c.least)=false:=by simp;exact y
  rw [this];simp
theorem Less.led1 (h:Less c K f M w g) {p:Nat} (hp:1≤p∧p≤c.n) (hu:unprot c w.nd p):led c ((tick1 c d w).nd p)=false:=by
 by_cases hb:bg c w.nd p
 ·rw [(tick1_bg h.ok h.n2 hb).1]
  exact led_role (by show ¬ ((2:Nat)=4);omega) (.inl rfl)
 ·rw [h.nd1 hp hb]
  exact led_role (h.nl p) hu
theorem good_best {s:Nd} (hi:m.idx=(nd0 f).fin) (hl:m.lt=(nd0 f).tm (nd0 f).fin) (h:upTo (nd0 f).log s.log):good m s=true:=by
 unfold good
 rw [hi,hl]
 unfold upTo at h
 have h:s.tm s.fin<(nd0 f).tm (nd0 f).fin∨(s.tm s.fin=(nd0 f).tm (nd0 f).fin∧s.fin≤(nd0 f).fin):=h
 rcases h with y | ⟨y,z⟩
 ·simp [y]
 ·simp [y,z]
structure W1 (c:Cfg) (f M:Nat) (w:Wd) (r o:List Msg):Prop where
 rk:∀ m∈r,m.kind=1∧bg c w.nd m.src∧m.term=(w.nd m.src).term+1∧m.idx=(w.nd m.src).fin∧m.lt=(w.nd m.src).tm (w.nd m.src).fin∧(1≤m.dst∧m.dst≤c.n)∧m.dst≠m.src
 ok:∀ m∈o,m.kind=2∧bg c w.nd m.dst∧(1≤m.src∧m.src≤c.n)∧(m.rej=true→m.term=(w.nd m.src).term)∧(m.rej=false→(w.nd m.src).term<m.term∧m.term=(w.nd m.dst).term+1)
 a:∀ L q,bg c w.nd L→1≤q→q≤c.n→(w.nd L).term<(w.nd q).term→(∃ m∈r,m.src=L∧m.dst=q)∨(∃ m∈o,m.rej=true∧m.dst=L∧(w.nd q).term≤m.term)
 c7:bg c w.nd f→(w.nd f).term=M→(∀ q,1≤q→q≤c.n→unprot c w.nd q)→∀ q,1≤q→q≤c.n→q≠f→(∃ m∈r,m.src=f∧m.dst=q)∨(∃ m∈o,m.rej=false∧m.dst=f∧m.src=q∧m.term=M+1)
theorem W1.start (h:Less c K f M w g):W1 c f M w (tick1 c d w).net []:=by
 refine ⟨fun x hx=>?_,fun x hx=>absurd hx (by simp),fun L q hL h1 h2 hlt=>?_,fun hb hM hu q h1 h2 hne=>?_⟩
 ·rcases tick1_kinds h.ok h.n2 h.net hx with ⟨a,b⟩ | b
  ·have:=mem_ask b
   have hd:=mem_others.1 this.2.2.2.2.2
   rw [h.ok.inv.ids] at hd
   exact ⟨this.1,a,this.2.2.1,this.2.2.2.1,this.2.2.2.2.1,hd.1,hd.2⟩
  ·exact absurd b.2 (h.nl _)
 ·have hne:q≠L:=fun e=>by subst e;omega
  obtain ⟨x,hx,_,b,e,_⟩:=tick1_ask (d:=d) h.ok h.n2 h.net hL ⟨h1,h2⟩ hne
  exact .inl ⟨x,hx,b,e⟩
 ·obtain ⟨x,hx,_,b,e,_⟩:=tick1_ask (d:=d) h.ok h.n2 h.net hb ⟨h1,h2⟩ hne
  exact .inl ⟨x,hx,b,e⟩
theorem W1.step (h:W1 c f M w (m :: r) o) (hL:Less c K f M w g) (hnd:nd m.dst=(tick1 c d w).nd m.dst):W1 c f M w r (o++(message c draw m (nd m.dst)).2):=by
 obtain ⟨k1,k2,k3,k4,k5,k6,k7⟩:=h.rk m (by simp)
 have hterm:(nd m.dst).term=(w.nd m.dst).term:=by rw [hnd];exact (tick1_term hL.ok hL.n2 _).1
 have hlog:(nd m.dst).log=(w.nd m.dst).log:=by rw [hnd];exact (tick1_term hL.ok hL.n2 _).2.1
 have hid:(nd m.dst).id=m.dst:=by
  rw [hnd,tick1_nd k6,(hL.ok.tkd hL.n2 _).id,hL.ok.inv.ids]
 refine ⟨fun x hx=>h.rk x (by simp [hx]),fun x hx=>?_,fun L q hb h1 h2 hlt=>?_,fun hb hM hu q h1 h2 hne=>?_⟩
 ·rcases List.mem_append.1 hx with y | y
  ·exact h.ok x y
  ·rcases preVote_out (c:=c) (draw:=draw) (s:=nd m.dst) k1 with z | ⟨u,z,z1,z2,z3,z4⟩
   ·rw [z.1] at y;exact absurd y (by simp)
   ·rw [z] at y
    obtain rfl:=List.mem_singleton.1 y
    rw [hid] at z3
    rw [hterm] at z4
    refine ⟨z1,by rw [z2];exact k2,by rw [z3];exact k6,fun hj=>?_,fun hj=>?_⟩
    ·rcases z4 with z4 | z4
     ·rw [z4.2.1,z3]
     ·rw [z4.1] at hj;exact absurd hj (by simp)
    ·rcases z4 with z4 | z4
     ·rw [z4.1] at hj;exact absurd hj (by simp)
     ·rw [z4.2.1,z3,z2];exact ⟨z4.2.2,k3⟩
 ·rcases h.a L q hb h1 h2 hlt with ⟨x,hx,e1,e2⟩ | ⟨x,hx,e⟩
  ·rcases List.mem_cons.1 hx with rfl | hx
   ·right
    obtain ⟨u,z,z1,z2,z3,z4,z5⟩:=preVote_le (c:=c) (draw:=draw) (s:=nd x.dst) k1 (by rw [hterm,k3,e1,e2];omega)
    exact ⟨u,List.mem_append_right _ (by rw [z];simp),z4,by rw [z2];exact e1,by rw [z5,hterm,e2];exact Nat.le_refl _⟩
   ·exact .inl ⟨x,hx,e1,e2⟩
  ·exact .inr ⟨x,List.mem_append_left _ hx,e⟩
 ·rcases h.c7 hb hM hu q h1 h2 hne with ⟨x,hx,e1,e2⟩ | ⟨x,hx,e⟩
  ·rcases List.mem_cons.1 hx with rfl | hx
   ·right
    have hq:=hL.M q h1 h2
    obtain ⟨u,z,z1,z2,z3,z4,z5⟩:=preVote_yes (c:=c) (draw:=draw) (s:=nd x.dst) k1 (by rw [hterm,k3,e1,e2,hM];omega) (by rw [hnd];exact hL.led1 k6 (hu _ k6.1 k6.2)) (good_best (nd0:=w.nd) (f:=f) (by rw [k4,e1]) (by rw [k5,e1]) (by rw [hlog];exact hL.best _))
    exact ⟨u,List.mem_append_right _ (by rw [z];simp),z4,by rw [z2];exact e1,by rw [z3,hid];exact e2,by rw [z5,k3,e1,hM]⟩
   ·exact .inl ⟨x,hx,e1,e2⟩
  ·exact .inr ⟨x,List.mem_append_left _ hx,e⟩
structure Ask3 (c:Cfg) (w:Wd) (l:List Msg) (m:Msg):Prop where
 k:m.kind=3
 bg:bg c w.nd m.src
 term:m.term=(w.nd m.src).term+1
 idx:m.idx=(w.nd m.src).fin
 lt:m.lt=(w.nd m.src).tm (w.nd m.src).fin
 dst:(1≤m.dst∧m.dst≤c.n)∧m.dst≠m.src
 all:∀ q,1≤q→q≤c.n→q≠m.src→∃ x∈l,x.src=m.src∧x.dst=q∧x.term=m.term
 maj:∃ Q,Maj c.n Q∧∀ q∈Q,(w.nd q).term≤(w.nd m.src).term
structure W2 (c:Cfg) (d:Nat→Int) (f M:Nat) (w:Wd) (nd:Nat→Nd) (r o:List Msg):Prop where
 rk:∀ m∈r,m.kind=2∧bg c w.nd m.dst∧(1≤m.src∧m.src≤c.n)∧(m.rej=true→m.term=(w.nd m.src).term)∧(m.rej=false→(w.nd m.src).term<m.term∧m.term=(w.nd m.dst).term+1)
 nb:∀ p,¬ bg c w.nd p→nd p=(tick1 c d w).nd p
 b:∀ p,bg c w.nd p→(nd p).elapsed=0∧(nd p).timeout=rnd c (d p)∧(nd p).leader=0
 a:∀ L q,bg c w.nd L→1≤q→q≤c.n→(w.nd q).term≤(nd L).term∨(∃ m∈r,m.rej=true∧m.dst=L∧(w.nd q).term≤m.term)
 gr:∀ L,bg c w.nd L→(nd L).role=2→(nd L).term=(w.nd L).term∧(nd L).gr.Nodup∧∀ p∈(nd L).gr,(1≤p∧p≤c.n)∧(w.nd p).term≤(w.nd L).term
 ok:∀ m∈o,Ask3 c w o m∧m.term≤(nd m.src).term
 t:∀ p,1≤p→p≤c.n→(nd p).term≤M∨((nd p).term=M+1∧∃ m∈o,m.term=M+1)
 c7:bg c w.nd f→(w.nd f).term=M→(∀ q,1≤q→q≤c.n→unprot c w.nd q)→((nd f).role=2∧(nd f).term=M∧∀ q,1≤q→q≤c.n→(q∈(nd f).gr∨(∃ m∈r,m.rej=false∧m.dst=f∧m.src=q∧m.term=M+1)))∨((nd f).role=3∧(nd f).term=M+1∧(nd f).gr=[f]∧∃ m∈o,m.src=f∧m.term=M+1)
 nl:∀ p,(nd p).role≠4
 lg:∀ p,(nd p).log=(w.nd p).log
theorem W2.start (h:Less c K f M w g) (hW:W1 c f M w [] r):W2 c d f M w (tick1 c d w).nd r []:=by
 refine ⟨hW.ok,fun _ _=>rfl,fun p hp=>?_,fun L q hL h1 h2=>?_,fun L hL hr=>?_,fun x hx=>absurd hx (by simp),fun p h1 h2=>?_,fun hb hM hu=>?_,fun p=>?_,fun p=>(tick1_term h.ok h.n2 p).2.1⟩
 ·rw [(tick1_bg h.ok h.n2 hp).1];exact ⟨rfl,rfl,rfl⟩
 ·rw [(tick1_term h.ok h.n2 L).1]
  rcases Nat.lt_or_ge (w.nd L).term (w.nd q).term with y | y
  ·rcases hW.a L q hL h1 h2 y with ⟨x,hx,_⟩ | z
   ·exact absurd hx (by simp)
   ·exact .inr z
  ·exact .inl y
 ·rw [(tick1_bg h.ok h.n2 hL).1]
  refine ⟨rfl,by show [(w.nd L).id].Nodup;simp,fun p hp=>?_⟩
  have hp:p∈[(w.nd L).id]:=hp
  have:=List.mem_singleton.1 hp
  rw [h.ok.inv.ids] at this
  subst this
  exact ⟨hL.1,Nat.le_refl _⟩
 ·rw [(tick1_term h.ok h.n2 p).1];exact .inl (h.M p h1 h2)
 ·left
  rw [(tick1_bg h.ok h.n2 hb).1]
  refine ⟨rfl,hM,fun q h1 h2=>?_⟩
  by_cases hq:q=f
  ·left
   show q∈[(w.nd f).id]
   rw [h.ok.inv.ids,hq];simp
  ·rcases hW.c7 hb hM hu q h1 h2 hq with ⟨x,hx,_⟩ | y
   ·exact absurd hx (by simp)
   ·exact .inr y
 ·by_cases hp:1≤p∧p≤c.n
  ·by_cases hb:bg c w.nd p
   ·rw [(tick1_bg h.ok h.n2 hb).1];show ¬ ((2:Nat)=4);omega
   ·rw [h.nd1 hp hb];exact h.nl p
  ·rw [tick1_out hp];exact h.nl p
theorem Ask3.more {l l':List Msg} (h:Ask3 c w l m):Ask3 c w (l++l') m:=⟨h.k,h.bg,h.term,h.idx,h.lt,h.dst,fun q h1 h2 h3=>by obtain ⟨x,hx,e⟩:=h.all q h1 h2 h3;exact ⟨x,List.mem_append_left _ hx,e⟩,h.maj⟩
theorem other_there (h2:2≤c.n) (i:Nat):∃ q,(1≤q∧q≤c.n)∧q≠i:=by
 by_cases h:i=1
 ·exact ⟨2,⟨by omega,h2⟩,by omega⟩
 ·exact ⟨1,⟨by omega,by omega⟩,fun e=>h e.symm⟩
theorem W2.step (h:W2 c d f M w nd (m :: r) o) (hL:Less c K f M w g) (hI:Inv c.n nd net g'):W2 c d f M w (setN nd m.dst (message c (d m.dst) m (nd m.dst)).1) r (o++(message c (d m.dst) m (nd m.dst)).2):=by
 obtain ⟨k1,k2,k3,k4,k5⟩:=h.rk m (by simp)
 have hid:=hI.ids m.dst
 have keep:∀ s':Nd,(message c (d m.dst) m (nd m.dst)).1=s'→(message c (d m.dst) m (nd m.dst)).2=[]→s'.log=(nd m.dst).log→(nd m.dst).term≤s'.term→(s'.elapsed=0∧s'.timeout=rnd c (d m.dst)∧s'.leader=0)→s'.role≠4 →
   (∀ q,1≤q→q≤c.n→m.rej=true→(w.nd q).term≤m.term→(w.nd q).term≤s'.term) →
   (s'.role=2→(nd m.dst).role=2∧s'.term=(nd m.dst).term∧s'.gr.Nodup∧∀ p∈s'.gr,p∈(nd m.dst).gr∨((1≤p∧p≤c.n)∧(w.nd p).term≤(w.nd m.dst).term)) →
   (s'.term≤M∨s'.term=(nd m.dst).term) →
   (m.dst=f→(nd f).role=2→(nd f).term=M→s'.role=2∧s'.term=M∧∀ q,1≤q→q≤c.n→(q∈(nd f).gr∨(m.rej=false∧m.src=q∧m.term=M+1))→q∈s'.gr) →
   (m.dst=f→(nd f).role=3→(nd f).term=M+1→(nd f).gr=[f]→s'.role=3∧s'.term=M+1∧s'.gr=[f]) →
   W2 c d f M w (setN nd m.dst (message c (d m.dst) m (nd m.dst)).1) r (o++(message c (d m.dst) m (nd m.dst)).2):=by
  intro s' e1 e2 e3 e4 e5 e6 e7 e8 e9 e10 e11
  rw [e1,e2,List.append_nil]
  have hmono:∀ q,(nd q).term≤(setN nd m.dst s' q).term:=fun q=>by
   by_cases hq:q=m.dst
   ·subst hq;rw [setN_at];exact e4
   ·rw [setN_ne _ _ hq];exact Nat.le_refl _
  refine ⟨fun x hx=>h.rk x (by simp [hx]),fun p hp=>?_,fun p hp=>?_,fun L q hb h1 h2=>?_,fun L hb hr=>?_,fun x hx=>⟨(h.ok x hx).1,Nat.le_trans (h.ok x hx).2 (hmono _)⟩,fun p h1 h2=>?_,fun hb hM hu=>?_,fun p=>?_,fun p=>?_⟩
  ·rw [setN_ne _ _ fun e=>hp (by rw [e];exact k2)];exact h.nb p hp
  ·by_cases hq:p=m.dst
   ·subst hq;rw [setN_at];exact e5
   ·rw [setN_ne _ _ hq];exact h.b p hp
  ·rcases h.a L q hb h1 h2 with y | ⟨x,hx,y⟩
   ·exact .inl (Nat.le_trans y (hmono L))
   ·rcases List.mem_cons.1 hx with rfl | hx
    ·left
     rw [←y.2.1,setN_at]
     exact e7 q h1 h2 y.1 y.2.2
    ·exact .inr ⟨x,hx,y⟩
  ·by_cases hq:L=m.dst
   ·subst hq
    rw [setN_at] at hr ⊢
    obtain ⟨a1,a2,a3,a4⟩:=e8 hr
    obtain ⟨b1,b2,b3⟩:=h.gr _ hb a1
    exact ⟨by rw [a2];exact b1,a3,fun p hp=>(a4 p hp).elim (b3 p) id⟩
   ·rw [setN_ne _ _ hq] at hr ⊢;exact h.gr L hb hr
  ·by_cases hq:p=m.dst
   ·subst hq
    rw [setN_at]
    rcases e9 with y | y
    ·exact .inl y
    ·rw [y];exact h.t _ h1 h2
   ·rw [setN_ne _ _ hq];exact h.t p h1 h2
  ·by_cases hq:f=m.dst
   ·rw [hq,setN_at,←hq]
    rcases h.c7 hb hM hu with ⟨y1,y2,y3⟩ | ⟨y1,y2,y3,y4⟩
    ·left
     obtain ⟨z1,z2,z3⟩:=e10 hq.symm y1 y2
     refine ⟨z1,z2,fun q h1 h2=>?_⟩
     rcases y3 q h1 h2 with u | ⟨x,hx,u1,u2,u3,u4⟩
     ·exact .inl (z3 q h1 h2 (.inl u))
     ·rcases List.mem_cons.1 hx with rfl | hx
      ·exact .inl (z3 q h1 h2 (.inr ⟨u1,u3,u4⟩))
      ·exact .inr ⟨x,hx,u1,u2,u3,u4⟩
    ·right
     obtain ⟨z1,z2,z3⟩:=e11 hq.symm y1 y2 y3
     exact ⟨z1,z2,z3,y4⟩
   ·rw [setN_ne _ _ hq]
    rcases h.c7 hb hM hu with ⟨y1,y2,y3⟩ | y
    ·left
     refine ⟨y1,y2,fun q h1 h2=>?_⟩
     rcases y3 q h1 h2 with u | ⟨x,hx,u⟩
     ·exact .inl u
     ·rcases List.mem_cons.1 hx with rfl | hx
      ·exact absurd u.2.1.symm hq
      ·exact .inr ⟨x,hx,u⟩
    ·exact .inr y
  ·by_cases hq:p=m.dst
   ·subst hq;rw [setN_at];exact e6
   ·rw [setN_ne _ _ hq];exact h.nl p
  ·by_cases hq:p=m.dst
   ·subst hq;rw [setN_at,e3];exact h.lg _
   ·rw [setN_ne _ _ hq];exact h.lg p
 rcases kind2_cases (c:=c) (draw:=d m.dst) (s:=nd m.dst) hL.n2 k1 with ⟨e1,e2,e3,e4⟩ | ⟨e1,e2,e3,e4⟩ | ⟨e1,e2,e3,e4,e5,e6⟩ | ⟨e1,e2,e3,e4,e5,e6⟩
 ·
  refine keep _ e1 e2 rfl (Nat.le_refl _) (h.b _ k2) (h.nl _) (fun q _ _ hj hq=>Nat.le_trans hq (e3 hj)) (fun hr=>⟨hr,rfl,(h.gr _ k2 hr).2.1,fun p hp=>.inl hp⟩) (.inr rfl) (fun hf h1 h2=>?_) (fun hf h1 h2 h3=>?_)
  ·rw [hf]
   refine ⟨h1,h2,fun q _ _ hq=>hq.elim id fun hq=>?_⟩
   exact absurd (by rw [hf,h2];exact hq.2.2) (e4 (by rw [hf];exact h1) hq.1)
  ·rw [hf];exact ⟨h1,h2,h3⟩
 ·
  have hle:m.term≤M:=by rw [k4 e1];exact hL.M _ k3.1 k3.2
  have ht:(follow c (d m.dst) m.term 0 (nd m.dst)).term=m.term:=by show max _ _=_;omega
  refine keep _ e3 e4 rfl (by rw [ht];omega) ⟨rfl,rfl,rfl⟩ (by show ¬ ((1:Nat)=4);omega) (fun q _ _ _ hq=>by rw [ht];exact hq) (fun hr=>absurd (show (1:Nat)=2 from hr) (by omega)) (.inl (by rw [ht];exact hle)) (fun hf h1 h2=>?_) (fun hf h1 h2 h3=>?_)
  ·rw [hf] at e2;omega
  ·rw [hf] at e2;omega
 ·
  have hb:=h.b _ k2
  obtain ⟨g1,g2,g3⟩:=h.gr _ k2 e1
  have hj:m.rej≠true:=by rw [e2];simp
  refine keep _ e5 e6 rfl (Nat.le_refl _) hb (by show (nd m.dst).role≠4;omega) (fun q _ _ hj' _=>absurd hj' hj) (fun _=>⟨e1,rfl,nodup_put g2 _,fun p hp=>?_⟩) (.inr rfl) (fun hf h1 h2=>?_) (fun hf h1 h2 h3=>?_)
  ·rcases mem_put.1 hp with y | rfl
   ·exact .inl y
   ·have:=k5 e2
    exact .inr ⟨k3,by omega⟩
  ·refine ⟨e1,by show (nd m.dst).term=M;rw [hf];exact h2,fun q _ _ hq=>?_⟩
   show q∈put (nd m.dst).gr m.src
   rw [hf]
   rcases hq with y | y
   ·exact mem_put.2 (.inl y)
   ·exact mem_put.2 (.inr y.2.1.symm)
  ·rw [hf] at e1;omega
 ·
  obtain ⟨g1,g2,g3⟩:=h.gr _ k2 e1
  have hmono:∀ q,(nd q).term≤(setN nd m.dst (message c (d m.dst) m (nd m.dst)).1 q).term:=fun q=>by
   by_cases hq:q=m.dst
   ·subst hq;rw [setN_at,e5];exact Nat.le_succ _
   ·rw [setN_ne _ _ hq];exact Nat.le_refl _
  have hterm:(message c (d m.dst) m (nd m.dst)).1.term=(w.nd m.dst).term+1:=by rw [e5];show (nd m.dst).term+1=_;rw [g1]
  have hvotes:∀ x∈votes c (nd m.dst),x.kind=3∧x.src=m.dst∧x.term=(w.nd m.dst).term+1∧x.idx=(w.nd m.dst).fin∧x.lt=(w.nd m.dst).tm (w.nd m.dst).fin∧(1≤x.dst∧x.dst≤c.n)∧x.dst≠m.dst:=fun x hx=>by
   obtain ⟨p,hp,rfl⟩:=List.mem_map.1 hx
   have hp:=mem_others.1 hp
   rw [hid] at hp
   have hl:=h.lg m.dst
   refine ⟨rfl,hid,by show (nd m.dst).term+1=_;rw [g1],?_,?_,hp.1,hp.2⟩
   ·show (nd m.dst).log.length=_;rw [hl];rfl
   ·show tmL (nd m.dst).log (nd m.dst).log.length=_;rw [hl];rfl
  have hvmem:∀ q,1≤q→q≤c.n→q≠m.dst→∃ x∈votes c (nd m.dst),x.src=m.dst∧x.dst=q∧x.term=(w.nd m.dst).term+1:=fun q h1 h2 h3=>⟨_,List.mem_map.2 ⟨q,mem_others.2 ⟨⟨h1,h2⟩,by rw [hid];exact h3⟩,rfl⟩,hid,rfl,by show (nd m.dst).term+1=_;rw [g1]⟩
  have hk5:=k5 e2
  have hMaj:Maj c.n (put (nd m.dst).gr m.src):=⟨nodup_put g2 _,fun q hq=>by
   rcases mem_put.1 hq with y | rfl
   ·exact (g3 q y).1
   ·exact k3,of_decide_eq_true e4⟩
  rw [e6]
  refine ⟨fun x hx=>h.rk x (by simp [hx]),fun p hp=>?_,fun p hp=>?_,fun L q hb h1 h2=>?_,fun L hb hr=>?_,fun x hx=>?_,fun p h1 h2=>?_,fun hb hM hu=>?_,fun p=>?_,fun p=>?_⟩
  ·rw [setN_ne _ _ fun e=>hp (by rw [e];exact k2)];exact h.nb p hp
  ·by_cases hq:p=m.dst
   ·subst hq;rw [setN_at,e5];exact ⟨rfl,rfl,rfl⟩
   ·rw [setN_ne _ _ hq];exact h.b p hp
  ·rcases h.a L q hb h1 h2 with y | ⟨x,hx,y⟩
   ·exact .inl (Nat.le_trans y (hmono L))
   ·rcases List.mem_cons.1 hx with rfl | hx
    ·rw [e2] at y;exact absurd y.1 (by simp)
    ·exact .inr ⟨x,hx,y⟩
  ·by_cases hq:L=m.dst
   ·subst hq
    rw [setN_at,e5] at hr
    exact absurd (show (3:Nat)=2 from hr) (by omega)
   ·rw [setN_ne _ _ hq] at hr ⊢;exact h.gr L hb hr
  ·rcases List.mem_append.1 hx with y | y
   ·exact ⟨(h.ok x y).1.more,Nat.le_trans (h.ok x y).2 (hmono _)⟩
   ·obtain ⟨v1,v2,v3,v4,v5,v6,v7⟩:=hvotes x y
    refine ⟨⟨v1,by rw [v2];exact k2,by rw [v3,v2],by rw [v4,v2],by rw [v5,v2],⟨v6,by rw [v2];exact v7⟩,fun q h1 h2 h3=>?_,_,hMaj,fun q hq=>?_⟩,by rw [v2,setN_at,v3,hterm];exact Nat.le_refl _⟩
    ·rw [v2] at h3
     obtain ⟨u,hu,u1,u2,u3⟩:=hvmem q h1 h2 h3
     exact ⟨u,List.mem_append_right _ hu,by rw [u1,v2],u2,by rw [u3,v3]⟩
    ·rw [v2]
     rcases mem_put.1 hq with z | rfl
     ·exact (g3 q z).2
     ·omega
  ·by_cases hq:p=m.dst
   ·subst hq
    rw [setN_at,hterm]
    have hMd:=hL.M _ h1 h2
    rcases Nat.lt_or_ge (w.nd m.dst).term M with y | y
    ·exact .inl (by omega)
    ·right
     refine ⟨by omega,?_⟩
     obtain ⟨q,hq,hne⟩:=other_there hL.n2 m.dst
     obtain ⟨u,hu,_,_,u3⟩:=hvmem q hq.1 hq.2 hne
     exact ⟨u,List.mem_append_right _ hu,by rw [u3];omega⟩
   ·rw [setN_ne _ _ hq]
    rcases h.t p h1 h2 with y | ⟨y,x,hx,z⟩
    ·exact .inl y
    ·exact .inr ⟨y,x,List.mem_append_left _ hx,z⟩
  ·by_cases hq:f=m.dst
   ·right
    rw [hq,setN_at,hterm,←hq,hM]
    obtain ⟨q,hq',hne⟩:=other_there hL.n2 f
    rw [hq] at hne
    obtain ⟨u,hu,u1,_,u3⟩:=hvmem q hq'.1 hq'.2 hne
    refine ⟨?_,rfl,?_,u,List.mem_append_right _ ?_,by rw [u1,hq],by rw [u3,←hq,hM]⟩
    ·rw [hq,e5];rfl
    ·rw [hq,e5];show [(nd m.dst).id]=[m.dst];rw [hid]
    ·rw [hq];exact hu
   ·rw [setN_ne _ _ hq]
    rcases h.c7 hb hM hu with ⟨y1,y2,y3⟩ | ⟨y1,y2,y3,x,hx,y4⟩
    ·left
     refine ⟨y1,y2,fun q h1 h2=>?_⟩
     rcases y3 q h1 h2 with u | ⟨x,hx,u⟩
     ·exact .inl u
     ·rcases List.mem_cons.1 hx with rfl | hx
      ·exact absurd u.2.1.symm hq
      ·exact .inr ⟨x,hx,u⟩
    ·exact .inr ⟨y1,y2,y3,x,List.mem_append_left _ hx,y4⟩
  ·by_cases hq:p=m.dst
   ·subst hq;rw [setN_at,e5];show ¬ ((3:Nat)=4);omega
   ·rw [setN_ne _ _ hq];exact h.nl p
  ·by_cases hq:p=m.dst
   ·subst hq;rw [setN_at,e5];exact h.lg _
   ·rw [setN_ne _ _ hq];exact h.lg p
end
end Go.Proofs.YtocogcgnahbpkaaGreat.Rf
