import Derived.Test.YtocogcgnahbpkaaGreatC7
namespace Go.Proofs.YtocogcgnahbpkaaGreat.Rf
section
variable {n:Nat} {nd nd0:Nat→Nd} {g g' g0:Gh} {net net' r o l3:List Msg} {i f M:Nat} {s s':Nd} {ms ms':List Msg} {c:Cfg} {draw:Int} {d:Nat→Int} {m x:Msg} {K:Nat} {w:Wd}
structure Hyp9 (c:Cfg) (f M:Nat) (w:Wd):Prop where
 bg:∀ p,bg c w.nd p↔p=f
 T:∀ p,1≤p→p≤c.n→(w.nd p).term=M
 ld:∀ p,1≤p→p≤c.n→(w.nd p).leader=0
def Reset (c:Cfg) (d:Nat→Int) (nd:Nat→Nd) (p:Nat):Prop:=(nd p).elapsed=0∧(nd p).timeout=rnd c (d p)∧(nd p).leader=0
def Why (c:Cfg) (w:Wd) (nd:Nat→Nd) (l3:List Msg) (p:Nat):Prop:=bg c w.nd p∨(unprot c w.nd p∧∃ m∈l3,(w.nd p).term≤m.term∧m.term≤(nd p).term)
structure W3 (c:Cfg) (d:Nat→Int) (f M:Nat) (w:Wd) (l3:List Msg) (nd:Nat→Nd) (r o:List Msg):Prop where
 rk:∀ m∈r,m∈l3
 s:∀ p,1≤p→p≤c.n→(¬ bg c w.nd p∧nd p=(tick1 c d w).nd p)∨(Reset c d nd p∧Why c w nd l3 p)
 a:∀ L q,bg c w.nd L→1≤q→q≤c.n→(w.nd q).term≤(nd L).term
 t4:∀ m∈l3,(∀ p,1≤p→p≤c.n→unprot c w.nd p→m.term≤(nd p).term∨(∃ x∈r,x.dst=p∧x.term=m.term))
 t:∀ p,1≤p→p≤c.n→(nd p).term≤M∨((nd p).term=M+1∧∃ m∈l3,m.term=M+1)
 nl:∀ p,(nd p).role≠4
 lg:∀ p,(nd p).log=(w.nd p).log
 c9:Hyp9 c f M w→((nd f).role=3∧(nd f).term=M+1∧(nd f).gr=[f])∧(∀ m∈o,m.kind=4∧m.rej=false∧m.dst=f∧m.term=M+1)∧∀ q,1≤q→q≤c.n→q≠f→(nd q=(tick1 c d w).nd q∨((nd q).term=M+1∧(nd q).vote=f))∧((∃ m∈r,m.src=f∧m.dst=q)∨(∃ m∈o,m.src=q))
theorem Soft.noMaj (hs:Soft c s) (hr:s.role=2):¬ c.n<2*s.gr.length:=fun h=>(hs.gr2 hr).2 (decide_eq_true h)
theorem all_le {l:List Nat} (hall:∀ q,1≤q→q≤c.n→q∈l):c.n≤l.length:=by
 have:=nodup_le (all_nodup c) (R:=l) fun q hq=>hall q (mem_all.1 hq).1 (mem_all.1 hq).2
 rwa [List.length_range'] at this
theorem W2.stood (h:W2 c d f M w nd [] l3) (hL:Less c K f M w g) (hs:Soft c (nd f)) (hb:bg c w.nd f) (hM:(w.nd f).term=M) (hu:∀ q,1≤q→q≤c.n→unprot c w.nd q):(nd f).role=3∧(nd f).term=M+1∧(nd f).gr=[f]∧∃ m∈l3,m.src=f∧m.term=M+1:=by
 rcases h.c7 hb hM hu with ⟨a,b,e⟩ | e
 ·exfalso
  have:=all_le (c:=c) (l:=(nd f).gr) fun q h1 h2=>(e q h1 h2).elim id fun ⟨x,hx,_⟩=>absurd hx (by simp)
  have:=hs.noMaj a
  have:=hL.n2
  omega
 ·exact e
theorem W3.start (h:W2 c d f M w nd [] l3) (hL:Less c K f M w g) (hs:∀ p,Soft c (nd p)):W3 c d f M w l3 nd l3 []:=by
 refine ⟨fun _ hx=>hx,fun p h1 h2=>?_,fun L q hb h1 h2=>?_,fun m hm p h1 h2 hu=>?_,h.t,h.nl,h.lg,fun h9=>?_⟩
 ·by_cases hb:bg c w.nd p
  ·exact .inr ⟨h.b p hb,.inl hb⟩
  ·exact .inl ⟨hb,h.nb p hb⟩
 ·exact (h.a L q hb h1 h2).elim id fun ⟨x,hx,_⟩=>absurd hx (by simp)
 ·obtain ⟨hA,hle⟩:=h.ok m hm
  by_cases hp:p=m.src
  ·left;rw [hp];exact hle
  ·obtain ⟨x,hx,_,e2,e3⟩:=hA.all p h1 h2 hp
   exact .inr ⟨x,hx,e2,e3⟩
 ·have hb:=(h9.bg f).2 rfl
  obtain ⟨a,b,e,x,hx,x1,x2⟩:=h.stood hL (hs f) hb (h9.T f hL.f.1 hL.f.2) fun q h1 h2=>.inl (h9.ld q h1 h2)
  refine ⟨⟨a,b,e⟩,fun x hx=>absurd hx (by simp),fun q h1 h2 hne=>⟨.inl (h.nb q fun hq=>hne ((h9.bg q).1 hq)),?_⟩⟩
  obtain ⟨y,hy,y1,y2,_⟩:=(h.ok x hx).1.all q h1 h2 (by rw [x1];exact hne)
  exact .inl ⟨y,hy,by rw [y1,x1],y2⟩
theorem W3.step (h:W3 c d f M w l3 nd (m :: r) o) (hL:Less c K f M w g) (hl3:∀ x∈l3,Ask3 c w l3 x) (hI:Inv c.n nd net g'):W3 c d f M w l3 (setN nd m.dst (message c (d m.dst) m (nd m.dst)).1) r (o++(message c (d m.dst) m (nd m.dst)).2):=by
 have hm3:=h.rk m (by simp)
 have hA:=hl3 m hm3
 have hid:=hI.ids m.dst
 have hsM:=hL.M m.src hA.bg.1.1 hA.bg.1.2
 have keep:∀ s':Nd,(message c (d m.dst) m (nd m.dst)).1=s'→s'.log=(nd m.dst).log→(nd m.dst).term≤s'.term→s'.role≠4 →
   ((s'=nd m.dst∧(unprot c w.nd m.dst→m.term≤s'.term))∨(s'.elapsed=0∧s'.timeout=rnd c (d m.dst)∧s'.leader=0∧s'.term=m.term∧(bg c w.nd m.dst∨unprot c w.nd m.dst))) →
   (Hyp9 c f M w→(s'.term=M+1∧s'.vote=f)∧∃ x,(message c (d m.dst) m (nd m.dst)).2=[x]∧x.kind=4∧x.dst=m.src∧x.src=m.dst∧x.rej=false∧x.term=m.term) →
   W3 c d f M w l3 (setN nd m.dst (message c (d m.dst) m (nd m.dst)).1) r (o++(message c (d m.dst) m (nd m.dst)).2):=by
  intro s' e1 e3 e4 e6 e7 e9
  rw [e1]
  have hmono:∀ q,(nd q).term≤(setN nd m.dst s' q).term:=fun q=>by
   by_cases hq:q=m.dst
   ·subst hq;rw [setN_at];exact e4
   ·rw [setN_ne _ _ hq];exact Nat.le_refl _
  have hT0:(w.nd m.dst).term≤(nd m.dst).term:=by
   rcases h.s _ hA.dst.1.1 hA.dst.1.2 with ⟨_,y⟩ | ⟨_,y | ⟨_,z,_,y⟩⟩
   ·rw [y,(tick1_term hL.ok hL.n2 _).1];exact Nat.le_refl _
   ·exact h.a _ _ y hA.dst.1.1 hA.dst.1.2
   ·omega
  refine ⟨fun x hx=>h.rk x (by simp [hx]),fun p h1 h2=>?_,fun L q hb h1 h2=>Nat.le_trans (h.a L q hb h1 h2) (hmono L),fun x hx p h1 h2 hu=>?_,fun p h1 h2=>?_,fun p=>?_,fun p=>?_,fun h9=>?_⟩
  ·by_cases hq:p=m.dst
   ·subst hq
    unfold Reset Why
    rw [setN_at]
    rcases e7 with ⟨y,_⟩ | ⟨y1,y2,y3,y4,y5⟩
    ·rw [y];exact h.s _ h1 h2
    ·exact .inr ⟨⟨y1,y2,y3⟩,y5.elim .inl fun hu=>.inr ⟨hu,m,hm3,by omega,by omega⟩⟩
   ·unfold Reset Why
    rw [setN_ne _ _ hq];exact h.s p h1 h2
  ·rcases h.t4 x hx p h1 h2 hu with y | ⟨z,hz,z1,z2⟩
   ·exact .inl (Nat.le_trans y (hmono p))
   ·rcases List.mem_cons.1 hz with rfl | hz
    ·left
     rw [←z1,setN_at,←z2]
     rcases e7 with ⟨y,y'⟩ | ⟨_,_,_,y4,_⟩
     ·exact y' (by rw [z1];exact hu)
     ·rw [y4];exact Nat.le_refl _
    ·exact .inr ⟨z,hz,z1,z2⟩
  ·by_cases hq:p=m.dst
   ·subst hq
    rw [setN_at]
    rcases e7 with ⟨y,_⟩ | ⟨_,_,_,y4,_⟩
    ·rw [y];exact h.t _ h1 h2
    ·rw [y4,hA.term]
     rcases Nat.lt_or_ge (w.nd m.src).term M with u | u
     ·exact .inl (by omega)
     ·exact .inr ⟨by omega,m,hm3,by rw [hA.term];omega⟩
   ·rw [setN_ne _ _ hq];exact h.t p h1 h2
  ·by_cases hq:p=m.dst
   ·subst hq;rw [setN_at];exact e6
   ·rw [setN_ne _ _ hq];exact h.nl p
  ·by_cases hq:p=m.dst
   ·subst hq;rw [setN_at,e3];exact h.lg _
   ·rw [setN_ne _ _ hq];exact h.lg p
  ·obtain ⟨c1,c2,c3⟩:=h.c9 h9
   obtain ⟨⟨v1,v2⟩,x,x0,x1,x2,x3,x4,x5⟩:=e9 h9
   have hsf:m.src=f:=(h9.bg _).1 hA.bg
   have hne:m.dst≠f:=by rw [←hsf];exact hA.dst.2
   have hTf:=h9.T f hL.f.1 hL.f.2
   have hterm:m.term=M+1:=by rw [hA.term,hsf,hTf]
   rw [x0]
   refine ⟨by rw [setN_ne _ _ hne.symm];exact c1,fun y hy=>?_,fun q h1 h2 hq=>?_⟩
   ·rcases List.mem_append.1 hy with z | z
    ·exact c2 y z
    ·obtain rfl:=List.mem_singleton.1 z
     exact ⟨x1,x4,by rw [x2,hsf],by rw [x5,hterm]⟩
   ·obtain ⟨b1,b2⟩:=c3 q h1 h2 hq
    by_cases hqd:q=m.dst
    ·subst hqd
     rw [setN_at]
     exact ⟨.inr ⟨v1,v2⟩,.inr ⟨x,List.mem_append_right _ (by simp),x3⟩⟩
    ·rw [setN_ne _ _ hqd]
     refine ⟨b1,?_⟩
     rcases b2 with ⟨y,hy,y1,y2⟩ | ⟨y,hy,y1⟩
     ·rcases List.mem_cons.1 hy with rfl | hy
      ·exact absurd y2.symm hqd
      ·exact .inl ⟨y,hy,y1,y2⟩
     ·exact .inr ⟨y,List.mem_append_left _ hy,y1⟩
 have hnl:=h.nl m.dst
 have h9facts:Hyp9 c f M w→m.src=f∧m.term=M+1∧(∀ s1:Nd,s1.log=(nd m.dst).log→good m s1=true)∧(((nd m.dst).term=M∧(nd m.dst).leader=0)∨((nd m.dst).term=M+1∧(nd m.dst).vote=f)):=fun h9=>by
  have hsf:m.src=f:=(h9.bg _).1 hA.bg
  have hTf:=h9.T f hL.f.1 hL.f.2
  have hne:m.dst≠f:=by rw [←hsf];exact hA.dst.2
  refine ⟨hsf,by rw [hA.term,hsf,hTf],fun s1 hs1=>good_best (nd0:=w.nd) (f:=f) (by rw [hA.idx,hsf]) (by rw [hA.lt,hsf]) (by rw [hs1,h.lg];exact hL.best _),?_⟩
  rcases ((h.c9 h9).2.2 m.dst hA.dst.1.1 hA.dst.1.2 hne).1 with y | y
  ·left
   have hb:¬ bg c w.nd m.dst:=fun hb=>hne ((h9.bg _).1 hb)
   rw [y,hL.nd1 hA.dst.1 hb]
   exact ⟨h9.T _ hA.dst.1.1 hA.dst.1.2,h9.ld _ hA.dst.1.1 hA.dst.1.2⟩
  ·exact .inr y
 have hledno:unprot c w.nd m.dst→led c (nd m.dst)=false:=fun hu=>by
  rcases h.s _ hA.dst.1.1 hA.dst.1.2 with ⟨_,y⟩ | ⟨y,_⟩
  ·rw [y];exact hL.led1 hA.dst.1 hu
  ·exact led_role hnl (.inl y.2.2)
 rcases kind3_cases (c:=c) (draw:=d m.dst) (s:=nd m.dst) hA.k with ⟨e1,e2,e3,e4⟩ | ⟨e1,e3,_⟩ | ⟨e1,e2,s1,hs1,e3⟩
 ·refine keep _ e3 rfl (Nat.le_refl _) hnl (.inl ⟨rfl,fun hu=>?_⟩) fun h9=>?_
  ·rw [hledno hu] at e2;exact absurd e2 (by simp)
  ·exfalso
   rcases (h9facts h9).2.2.2 with y | y
   ·rw [hledno (.inl (h9.ld _ hA.dst.1.1 hA.dst.1.2))] at e2;exact absurd e2 (by simp)
   ·have:=(h9facts h9).2.1;omega
 ·refine keep _ e3 rfl (Nat.le_refl _) hnl (.inl ⟨rfl,fun hu=>by omega⟩) fun h9=>?_
  exfalso
  obtain ⟨_,y,_,z⟩:=h9facts h9
  rcases z with z | z <;> omega
 ·have h1t:s1.term=m.term:=by
   rw [hs1]
   split
   ·show max _ _=_;omega
   ·omega
  have h1l:s1.log=(nd m.dst).log:=by rw [hs1];split <;> rfl
  have h1r:s1.role≠4:=by
   rw [hs1]
   split
   ·show ¬ ((1:Nat)=4);omega
   ·exact hnl
  have hgrant9:Hyp9 c f M w→good m s1=true∧(s1.vote=m.src∨(s1.vote=0∧s1.leader=0)):=fun h9=>by
   obtain ⟨y1,y2,y3,y4⟩:=h9facts h9
   refine ⟨y3 s1 h1l,?_⟩
   rcases y4 with y4 | y4
   ·right
    rw [hs1,if_pos (by omega)]
    exact ⟨by show (if (nd m.dst).term<m.term then 0 else _)=0;rw [if_pos (by omega)],rfl⟩
   ·left
    rw [hs1,if_neg (by omega),y4.2,y1]
  have hvote:s1.vote=m.src∨(s1.vote=0∧s1.leader=0)→s1.leader=0:=fun hv=>by
   by_cases hlt:(nd m.dst).term<m.term
   ·rw [hs1,if_pos hlt];rfl
   ·rw [hs1,if_neg hlt] at hv ⊢
    rcases hv with hv | hv
    ·rcases h.s _ hA.dst.1.1 hA.dst.1.2 with ⟨_,y⟩ | ⟨y,_⟩
     ·exfalso
      rw [y,(tick1_term hL.ok hL.n2 _).2.2] at hv
      rw [y,(tick1_term hL.ok hL.n2 _).1] at e1 hlt
      have hi0:=hL.ok.inv
      have v1:=hi0.voteN m.dst
      rw [hv] at v1
      have hte:(w.nd m.dst).term=m.term:=by omega
      have hs0:m.src≠0:=by have:=hA.bg.1.1;omega
      have v2:=(hi0.votes _ _ _ hs0 v1).1
      have v3:=(hi0.voteF m.src (w.nd m.dst).term (by rw [hte,hA.term];omega)).1
      omega
     ·exact y.2.2
    ·exact hv.2
  have hun:(nd m.dst).leader=0∨(nd m.dst).term<m.term→bg c w.nd m.dst∨unprot c w.nd m.dst:=fun hh=>by
   rcases h.s _ hA.dst.1.1 hA.dst.1.2 with ⟨hb,y⟩ | ⟨_,y | y⟩
   ·right
    rw [y,hL.nd1 hA.dst.1 hb] at hh
    rcases hh with hh | hh
    ·exact .inl hh
    ·have hl:=e2 (by rw [y,hL.nd1 hA.dst.1 hb];exact hh)
     rw [y,hL.nd1 hA.dst.1 hb] at hl
     refine Classical.byContradiction fun hn=>?_
     unfold unprot at hn
     have h1:(w.nd m.dst).leader≠0:=fun e=>hn (.inl e)
     have h2:(w.nd m.dst).elapsed+1<c.least:=Nat.lt_of_not_le fun e=>hn (.inr e)
     unfold led at hl
     simp [h1,h2] at hl
   ·exact .inl y
   ·exact .inr y.1
  rcases e3 with ⟨a1,a2,a3,x,x0,x1,x2,x3,x4,x5⟩ | ⟨a1,a2,x,x0,x1,x2,x3,x4,x5⟩
  ·have hcause:(nd m.dst).leader=0∨(nd m.dst).term<m.term:=by
    have hv:=hvote a2
    by_cases hlt:(nd m.dst).term<m.term
    ·exact .inr hlt
    ·rw [hs1,if_neg hlt] at hv
     exact .inl hv
   refine keep _ a3 h1l (by show (nd m.dst).term≤s1.term;omega) h1r (.inr ⟨rfl,rfl,hvote a2,h1t,hun hcause⟩) fun h9=>?_
   obtain ⟨y1,y2,_⟩:=h9facts h9
   exact ⟨⟨by show s1.term=_;rw [h1t,y2],y1⟩,x,x0,x1,x2,by rw [x3,hid],x4,x5⟩
  ·refine keep s1 a2 h1l (by omega) h1r ?_ fun h9=>absurd (hgrant9 h9) a1
   by_cases hlt:(nd m.dst).term<m.term
   ·right
    rw [hs1,if_pos hlt]
    exact ⟨rfl,rfl,rfl,by show max _ _=_;omega,hun (.inr hlt)⟩
   ·left
    have:s1=nd m.dst:=by rw [hs1,if_neg hlt]
    exact ⟨this,fun _=>by rw [this];omega⟩
structure W4 (c:Cfg) (d:Nat→Int) (f M:Nat) (w:Wd) (l3:List Msg) (nd:Nat→Nd) (net:List Msg):Prop where
 k:∀ m∈net,m.kind=4∧bg c w.nd m.dst
 s:∀ p,1≤p→p≤c.n→(¬ bg c w.nd p∧nd p=(tick1 c d w).nd p)∨(Reset c d nd p∧Why c w nd l3 p)
 a:∀ L q,bg c w.nd L→1≤q→q≤c.n→(w.nd q).term≤(nd L).term
 t4:∀ m∈l3,∀ p,1≤p→p≤c.n→unprot c w.nd p→m.term≤(nd p).term
 t:∀ p,1≤p→p≤c.n→(nd p).term≤M∨((nd p).term=M+1∧∃ m∈l3,m.term=M+1)
 nl:∀ p,(nd p).role≠4
 c9:Hyp9 c f M w→(nd f).role=3∧(nd f).term=M+1∧f∈(nd f).gr∧(∀ m∈net,m.rej=false∧m.dst=f∧m.term=M+1)∧∀ q,1≤q→q≤c.n→q≠f→(∃ m∈net,m.src=q)∨q∈(nd f).gr
theorem W4.start (h:W3 c d f M w l3 nd [] r) (hk:∀ m∈r,m.kind=4∧bg c w.nd m.dst):W4 c d f M w l3 nd r:=by
 refine ⟨hk,h.s,h.a,fun m hm p h1 h2 hu=>(h.t4 m hm p h1 h2 hu).elim id fun ⟨x,hx,_⟩=>absurd hx (by simp),h.t,h.nl,fun h9=>?_⟩
 obtain ⟨⟨a1,a2,a3⟩,b,e⟩:=h.c9 h9
 refine ⟨a1,a2,by rw [a3];simp,fun x hx=>(b x hx).2,fun q h1 h2 hq=>?_⟩
 rcases (e q h1 h2 hq).2 with ⟨x,hx,_⟩ | y
 ·exact absurd hx (by simp)
 ·exact .inl y
theorem W4.step (h:W4 c d f M w l3 nd (m :: r)) (hI:Inv c.n nd (m :: r) g') (hnl:(message c (d m.dst) m (nd m.dst)).1.role≠4) (hE:∀ q,(nd q).term≤(setN nd m.dst (message c (d m.dst) m (nd m.dst)).1 q).term):W4 c d f M w l3 (setN nd m.dst (message c (d m.dst) m (nd m.dst)).1) (r++(message c (d m.dst) m (nd m.dst)).2):=by
 obtain ⟨k1,k2⟩:=h.k m (by simp)
 obtain ⟨hms,hcs⟩:=kind4_cases k1 hnl
 have hM:=(hI.msgs m (by simp)).1
 rw [hms,List.append_nil]
 refine ⟨fun x hx=>h.k x (by simp [hx]),fun p h1 h2=>?_,fun L q hb h1 h2=>Nat.le_trans (h.a L q hb h1 h2) (hE L),fun x hx p h1 h2 hu=>Nat.le_trans (h.t4 x hx p h1 h2 hu) (hE p),fun p h1 h2=>?_,fun p=>?_,fun h9=>?_⟩
 ·by_cases hq:p=m.dst
  ·subst hq
   right
   rcases h.s _ h1 h2 with ⟨y,_⟩ | ⟨y,_⟩
   ·exact absurd k2 y
   ·refine ⟨?_,.inl k2⟩
    unfold Reset at y ⊢
    rw [setN_at]
    rcases hcs with ⟨z1,z2,z3,_⟩ | z
    ·rw [z1,z2,z3];exact y
    ·exact z
  ·unfold Reset Why
   rw [setN_ne _ _ hq];exact h.s p h1 h2
 ·by_cases hq:p=m.dst
  ·subst hq
   rw [setN_at]
   rcases message_term (c:=c) (draw:=d m.dst) (m:=m) (s:=nd m.dst) with y | ⟨_,y,_⟩ | y
   ·rw [y];exact h.t _ h1 h2
   ·rw [y]
    have h3:=(hI.msgs m (by simp)).2.2.2 (by omega)
    rcases h.t m.src hM.rng.1.1 hM.rng.1.2 with z | ⟨z,z'⟩
    ·exact .inl (by omega)
    ·rcases Nat.lt_or_ge M m.term with u | u
     ·exact .inr ⟨by omega,z'⟩
     ·exact .inl u
   ·omega
  ·rw [setN_ne _ _ hq];exact h.t p h1 h2
 ·by_cases hq:p=m.dst
  ·subst hq;rw [setN_at];exact hnl
  ·rw [setN_ne _ _ hq];exact h.nl p
 ·obtain ⟨a1,a2,a3,a4,a5⟩:=h.c9 h9
  obtain ⟨b1,b2,b3⟩:=a4 m (by simp)
  rw [b2] at hnl ⊢
  have:=kind4_grant (c:=c) (draw:=d f) (s:=nd f) k1 a1 (by omega) b1 hnl
  rw [setN_at]
  refine ⟨this.1,by rw [this.2.1];exact a2,by rw [this.2.2];exact mem_put.2 (.inl a3),fun x hx=>a4 x (by simp [hx]),fun q h1 h2 hq=>?_⟩
  rcases a5 q h1 h2 hq with ⟨x,hx,y⟩ | y
  ·rcases List.mem_cons.1 hx with rfl | hx
   ·right;rw [this.2.2];exact mem_put.2 (.inr y.symm)
   ·exact .inl ⟨x,hx,y⟩
  ·right;rw [this.2.2];exact mem_put.2 (.inl y)
theorem W4.no9 (h:W4 c d f M w l3 nd []) (h2:2≤c.n) (hs:Soft c (nd f)):¬ Hyp9 c f M w:=fun h9=>by
 obtain ⟨a1,_,a3,_,a5⟩:=h.c9 h9
 have:=all_le (c:=c) (l:=(nd f).gr) fun q h1 h2=>by
  by_cases hq:q=f
  ·rw [hq];exact a3
  ·exact (a5 q h1 h2 hq).elim (fun ⟨x,hx,_⟩=>absurd hx (by simp)) id
 exact hs.gr3 a1 (decide_eq_true (by omega))
end
section
variable {n:Nat} {nd nd0:Nat→Nd} {g g' g0:Gh} {net net' r o l3:List Msg} {i f M:Nat} {s s':Nd} {ms ms':List Msg} {c:Cfg} {draw:Int} {d:Nat→Int} {m x:Msg} {K:Nat} {w:Wd}
def Won (c:Cfg) (nd:Nat→Nd) (net:List Msg):Prop:=∃ L T,(1≤L∧L≤c.n)∧((nd L).role=4∧(nd L).term=T)∧¬ Above c nd T∧LDn c L T ⟨nd,net⟩
theorem Won.step (h:Won c nd (m :: r)) (hk:m.kind=4∨m.kind=5∨m.kind=6)
  (hO:Ok c K ⟨nd,m :: r⟩ g) (hO':Ok c K ⟨setN nd m.dst (message c (d m.dst) m (nd m.dst)).1,r++(message c (d m.dst) m (nd m.dst)).2⟩ g') (hE:Ext nd (setN nd m.dst (message c (d m.dst) m (nd m.dst)).1) g g') :
  Won c (setN nd m.dst (message c (d m.dst) m (nd m.dst)).1) (r++(message c (d m.dst) m (nd m.dst)).2):=by
 obtain ⟨L,T,hL,hLT,hA,hD⟩:=h
 have hm:m∈m :: r:=by simp
 have hM:=(hO.inv.msgs m hm).1
 have habove:∀ T,Above c (setN nd m.dst (message c (d m.dst) m (nd m.dst)).1) T→Above c nd T:=fun T ⟨p,hp,ht⟩=>by
  by_cases hpd:p=m.dst
  ·subst hpd
   rw [setN_at] at ht
   rcases rise hO.inv hm ht with y | y
   ·exact y
   ·omega
  ·rw [setN_ne _ _ hpd] at ht;exact ⟨p,hp,ht⟩
 have hOK:(⟨nd,m :: r⟩:Wd).OK c g:=⟨hO.inv,fun i=>(hO.soft i).role⟩
 refine ⟨L,T,hL,?_,fun hh=>hA (habove _ hh),LDn.arr (d:=d) hD hOK ⟨g',hO'.inv⟩ hE.tm (by simp)⟩
 by_cases hLd:L=m.dst
 ·subst hLd
  rw [setN_at]
  have hsrc:m.term≤T:=by
   have:=(hO.inv.msgs m hm).2.2.2 (by omega)
   refine Classical.byContradiction fun hn=>hA ⟨m.src,hM.rng.1,?_⟩
   show T<(nd m.src).term
   have:m.term≤(nd m.src).term:=this
   omega
  have:=leader_stays (c:=c) (draw:=d m.dst) (m:=m) hLT.1 (by omega) (by omega) fun ⟨k5,kt⟩=>(hO.inv.right5 hm k5).1 ⟨kt,hLT.1⟩
  exact ⟨this.1,by rw [this.2];exact hLT.2⟩
 ·rw [setN_ne _ _ hLd];exact hLT
structure Lost (c:Cfg) (d:Nat→Int) (f M:Nat) (w:Wd) (g:Gh) (l3:List Msg) (w':Wd) (g':Gh):Prop where
 com:Com c d f w.nd g g' w'.nd []
 asks:∀ m∈l3,Ask3 c w l3 m
 fin:W4 c d f M w l3 w'.nd []
 top:bg c w.nd f→(w.nd f).term=M→(∀ q,1≤q→q≤c.n→unprot c w.nd q)→∃ m∈l3,m.term=M+1
theorem tick_less (hc:CfgOK c) (h:Less c K f M w g) (hK:K+c.n<65536) :
  ∃ j g' l3,((tick1 c d w).run c d j).net=[]∧Ok c (K+c.n) ((tick1 c d w).run c d j) g'∧Ext w.nd ((tick1 c d w).run c d j).nd g g'∧((∃ L T,(1≤L∧L≤c.n)∧Led c L T ((tick1 c d w).run c d j).nd)∨Lost c d f M w g l3 ((tick1 c d w).run c d j) g'):=by
 have h2:=h.n2
 have hl0:∀ p,(w.nd p).role=4→(w.nd p).tm (w.nd p).fin=(w.nd p).term:=fun p=>(h.ok.soft p).last
 obtain ⟨g1,h1,e1⟩:=h.ok.tick1 (d:=d) hc hK
 have hC:=Com.start (d:=d) h.ok h2 h.net h.best h1.inv e1
 have hV1:V1 c w.nd (tick1 c d w).nd (tick1 c d w).net []:=by
  refine ⟨fun x hx=>?_,fun x hx=>absurd hx (by simp),fun L hL=>?_,fun L hL hr hA=>?_⟩
  ·rcases tick1_kinds h.ok h2 h.net hx with ⟨a,b⟩ | b
   ·exact .inl ⟨(mem_ask b).1,a,(mem_ask b).2.2.1⟩
   ·exact .inr b.1
  ·rw [(tick1_bg h.ok h2 hL).1];show ¬ ((2:Nat)=3);omega
  ·obtain ⟨p,hp,ht⟩:=hA
   have hne:p≠L:=fun e=>by subst e;rw [(tick1_term h.ok h2 p).1] at ht;omega
   obtain ⟨x,hx,a,b,e,_⟩:=tick1_ask (d:=d) h.ok h2 h.net hL hp hne
   exact .inl ⟨p,hp,ht,x,hx,a,b,e⟩
 have hmem:∀ {r o:List Msg} {m x:Msg} {l:List Msg},x∈r++(o++l)→x∈m :: r++o∨x∈l:=fun hx=>by
  rw [←List.append_assoc] at hx
  rcases List.mem_append.1 hx with y | y
  ·exact .inl (by rcases List.mem_append.1 y with z | z <;> simp [z])
  ·exact .inr y
 obtain ⟨g2,nd2,l2,r2,O2,E2,C2,V2',N2,Wa⟩:=Ok.phase (K:=K+c.n) hc d (fun y nd r o=>Com c d f w.nd g y nd (r++o)∧V1 c w.nd nd r o∧nd=(tick1 c d w).nd∧W1 c f M w r o)
  (fun nd m r o g g' hO hp hO' hE=>by
   obtain ⟨hp1,hp2,hp3,hp4⟩:=hp
   have hk:=(hp4.rk m (by simp)).1
   refine ⟨hp1.step h.ok.inv h.best hl0 hO.inv (by simp) (hO.soft _) (fun x hx=>hmem hx) hO'.inv hE (no_lead h2 (by omega)),hp2.step hO.inv hE.tm,?_,hp4.step h (by rw [hp3])⟩
   rw [preVote_still hk,setN_self];exact hp3)
  (tick1 c d w).net (tick1 c d w).nd [] g1 (by rw [List.append_nil];exact h1) ⟨by rw [List.append_nil];exact hC,hV1,rfl,W1.start h⟩
 rw [List.append_nil] at r2
 subst N2
 have hV2:V2 c w.nd (tick1 c d w).nd l2 []:=by
  refine ⟨V2'.ok,fun x hx=>absurd hx (by simp),fun L hL hr hA=>?_⟩
  rcases hr with hr | hr
  ·rcases V2'.v L hL hr hA with ⟨_,_,_,x,hx,_⟩ | y
   ·exact absurd hx (by simp)
   ·exact .inl y
  ·exact absurd hr (V2'.rl L hL)
 obtain ⟨g3,nd3,l3,r3,O3,E3,C3,V3',Wb⟩:=Ok.phase (K:=K+c.n) hc d (fun y nd r o=>Com c d f w.nd g y nd (r++o)∧V2 c w.nd nd r o∧W2 c d f M w nd r o)
  (fun nd m r o g g' hO hp hO' hE=>by
   obtain ⟨hp1,hp2,hp3⟩:=hp
   have hk:=(hp3.rk m (by simp)).1
   exact ⟨hp1.step h.ok.inv h.best hl0 hO.inv (by simp) (hO.soft _) (fun x hx=>hmem hx) hO'.inv hE (no_lead h2 (by omega)),hp2.step h2 hO.inv hp1.bgs,hp3.step h hO.inv⟩)
  l2 _ [] g2 (by rw [List.append_nil];exact O2) ⟨by rw [List.append_nil];exact C2,hV2,W2.start h Wa⟩
 rw [List.append_nil] at r3
 have hV3:V3 c w.nd nd3 l3 []:=by
  refine ⟨V3'.ok,fun x hx=>absurd hx (by simp),fun L hL hr hA=>?_⟩
  rcases V3'.v L hL hr hA with ⟨x,hx,_⟩ | y
  ·exact absurd hx (by simp)
  ·exact y
 have hl3:∀ m∈l3,Ask3 c w l3 m:=fun m hm=>(Wb.ok m hm).1
 have htop:bg c w.nd f→(w.nd f).term=M→(∀ q,1≤q→q≤c.n→unprot c w.nd q)→∃ m∈l3,m.term=M+1:=fun hb hM hu=>by
  obtain ⟨_,_,_,x,hx,_,e⟩:=Wb.stood h (O3.soft f) hb hM hu
  exact ⟨x,hx,e⟩
 obtain ⟨g4,nd4,l4,r4,O4,E4,C4,V4',Wc,Wk⟩:=Ok.phase (K:=K+c.n) hc d (fun y nd r o=>Com c d f w.nd g y nd (r++o)∧V3 c w.nd nd r o∧W3 c d f M w l3 nd r o∧∀ x∈o,x.kind=4)
  (fun nd m r o g g' hO hp hO' hE=>by
   obtain ⟨hp1,hp2,hp3,hp4⟩:=hp
   have hk:=(hl3 m (hp3.rk m (by simp))).k
   exact ⟨hp1.step h.ok.inv h.best hl0 hO.inv (by simp) (hO.soft _) (fun x hx=>hmem hx) hO'.inv hE (no_lead h2 (by omega)),hp2.step hO.inv (hO.soft _) hp1.bgs,hp3.step h hl3 hO.inv,fun x hx=>by
    rcases List.mem_append.1 hx with y | y
    ·exact hp4 x y
    ·have:=(out_message y).kinds
     omega⟩)
  l3 nd3 [] g3 (by rw [List.append_nil];exact O3) ⟨by rw [List.append_nil];exact C3,hV3,W3.start Wb h O3.soft,fun x hx=>absurd hx (by simp)⟩
 rw [List.append_nil] at r4
 have hk4:∀ x∈l4,x.kind=4∧bg c w.nd x.dst:=fun x hx=>by
  rcases V4'.ok x hx with y | y
  ·exact y
  ·have:=Wk x hx;omega
 have hV4:V4 c d f w.nd g g4 nd4 l4:=⟨fun x hx=>.inl (hk4 x hx),.inl ⟨C4,fun L hL hr hA=>by obtain ⟨x,hx,_⟩:=V4'.v L hL hr hA;exact absurd hx (by simp)⟩⟩
 obtain ⟨j,g5,_,n5,_,O5,⟨_,V5⟩,E5⟩:=Ok.ends (K:=K+c.n) hc d (fun y w'=>(∀ m∈w'.net,(m.kind=4∧bg c w.nd m.dst)∨m.kind=5∨m.kind=6)∧(Won c w'.nd w'.net∨(V4 c d f w.nd g y w'.nd w'.net∧W4 c d f M w l3 w'.nd w'.net)))
  (fun w' g g' hO hp hne hO' hE=>by
   obtain ⟨nd,net⟩:=w'
   match net,hne with
   | m :: r,_ =>
    obtain ⟨hk,hp⟩:=hp
    have hkm:=hk m (by simp)
    refine ⟨fun x hx=>?_,?_⟩
    ·rcases List.mem_append.1 (show x∈r++(message c (d m.dst) m (nd m.dst)).2 from hx) with y | y
     ·exact hk x (by simp [y])
     ·have:=(out_message y).kinds
      omega
    ·rcases hp with hp | ⟨hp1,hp2⟩
     ·exact .inl (hp.step (by omega) hO hO' hE)
     ·have hst:=hp1.step h.ok.inv h.best hl0 hO hO' hE
      rcases hst.alt with ⟨hC',_⟩ | hB
      ·right
       refine ⟨hst,hp2.step hO.inv (fun hr=>?_) hE.tm⟩
       exact h.nl m.dst (hC'.led m.dst (by rw [setN_at];exact hr)).1
      ·exact .inl hB)
  _ ⟨nd4,l4⟩ g4 O4 ⟨hV4.k,.inr ⟨hV4,W4.start Wc hk4⟩⟩ (Nat.le_refl _)
 have hrun:(tick1 c d w).run c d ((tick1 c d w).net.length+(l2.length+(l3.length+j)))=(⟨nd4,l4⟩:Wd).run c d j:=by
  rw [run_add,r2,run_add,r3,run_add,r4]
 rw [←hrun] at n5 O5 V5 E5
 refine ⟨_,g5,l3,n5,O5,e1.trans (E2.trans (E3.trans (E4.trans E5))),?_⟩
 generalize (tick1 c d w).run c d ((tick1 c d w).net.length+(l2.length+(l3.length+j)))=w' at n5 O5 V5 E5 ⊢
 rcases V5 with ⟨L,T,hL,hLT,_,hD⟩ | ⟨v1,v2⟩
 ·exact .inl ⟨L,T,hL,LDn.done (w:=w') hD n5 hLT⟩
 ·rcases v1.alt with ⟨hC',_⟩ | ⟨L,T,hL,hLT,_,hD⟩
  ·rw [n5] at hC' v2
   exact .inr ⟨hC',hl3,v2,htop⟩
  ·exact .inl ⟨L,T,hL,LDn.done (w:=w') hD n5 hLT⟩
end
def Tick (c:Cfg) (d:Nat→Int) (w w':Wd):Prop:=(∃ j,w'=(tick1 c d w).run c d j)∧w'.net=[]
def NoLed (c:Cfg) (w:Wd):Prop:=¬ ∃ L T,(1≤L∧L≤c.n)∧Led c L T w.nd
section
variable {n:Nat} {nd nd0:Nat→Nd} {g g' g0:Gh} {net net' r o l3:List Msg} {i f M:Nat} {s s':Nd} {ms ms':List Msg} {c:Cfg} {draw:Int} {d:Nat→Int} {m x:Msg} {K:Nat} {w w':Wd}
theorem Tick.eq {j:Nat} (h:Tick c d w w') (hj:((tick1 c d w).run c d j).net=[]):(tick1 c d w).run c d j=w':=by
 obtain ⟨⟨k,rfl⟩,h0⟩:=h
 exact runs_eq hj h0
theorem still_of (hc:CfgOK c) (h2:2≤c.n) (h:Ok c K w g) (h0:w.net=[]) (hb0:∀ p,upTo (w.nd f).log (w.nd p).log) (hK:K+c.n<65536) (hT:Tick c d w w') (hN:NoLed c w') :
  ∃ g',Ok c (K+c.n) w' g'∧Ext w.nd w'.nd g g'∧Still c d f w w' g g':=by
 obtain ⟨j,g',a,b,e,l⟩:=tick_any (d:=d) hc h2 h h0 hb0 hK
 have:=hT.eq a
 rw [this] at b e l
 rcases l with ⟨L,T,hL,hl⟩ | l
 ·exact absurd ⟨L,T,hL,hl⟩ hN
 ·exact ⟨g',b,e,l⟩
theorem Still.best (h:Still c d f w w' g g') (p:Nat):upTo (w'.nd f).log (w'.nd p).log:=by
 rw [h.com.best.1];exact h.com.best.2 p
structure Idle (c:Cfg) (d:Nat→Int) (f M:Nat) (w w':Wd) (A:Nat→Prop):Prop where
 nl:∀ p,(w'.nd p).role≠4
 mono:∀ p,(w.nd p).term≤(w'.nd p).term
 s:∀ p,1≤p→p≤c.n→(¬ bg c w.nd p∧(w'.nd p).elapsed=(w.nd p).elapsed+1∧(w'.nd p).timeout=(w.nd p).timeout∧(w'.nd p).term=(w.nd p).term∧(w'.nd p).leader=(w.nd p).leader)
  ∨(Reset c d w'.nd p∧(bg c w.nd p∨(unprot c w.nd p∧∃ T,A T∧(w.nd p).term≤T∧T≤(w'.nd p).term)))
 beg:∀ L q,bg c w.nd L→1≤q→q≤c.n→(w.nd q).term≤(w'.nd L).term
 ask:∀ T,A T→(∃ X,bg c w.nd X∧(w.nd X).term+1=T∧∃ Q,Maj c.n Q∧∀ q∈Q,(w.nd q).term<T)∧∀ p,1≤p→p≤c.n→unprot c w.nd p→T≤(w'.nd p).term
 cap:∀ p,1≤p→p≤c.n→(w'.nd p).term≤M∨((w'.nd p).term=M+1∧A (M+1))
 top:bg c w.nd f→(w.nd f).term=M→(∀ q,1≤q→q≤c.n→unprot c w.nd q)→A (M+1)
 no9:¬ Hyp9 c f M w
theorem Lost.idle (h:Lost c d f M w g l3 w' g') (hL:Less c K f M w g) (hs:Soft c (w'.nd f)) (hE:Ext w.nd w'.nd g g'):Idle c d f M w w' (fun T=>∃ m∈l3,m.term=T):=by
 refine ⟨h.fin.nl,hE.tm,fun p h1 h2=>?_,h.fin.a,fun T ⟨m,hm,hT⟩=>?_,h.fin.t,h.top,h.fin.no9 hL.n2 hs⟩
 ·rcases h.fin.s p h1 h2 with ⟨a,b⟩ | ⟨a,b | ⟨b,m,hm,e⟩⟩
  ·left
   rw [b,hL.nd1 ⟨h1,h2⟩ a]
   exact ⟨a,rfl,rfl,rfl,rfl⟩
  ·exact .inr ⟨a,.inl b⟩
  ·exact .inr ⟨a,.inr ⟨b,m.term,⟨m,hm,rfl⟩,e⟩⟩
 ·have hA:=h.asks m hm
  obtain ⟨Q,hQ,hq⟩:=hA.maj
  exact ⟨⟨m.src,hA.bg,by rw [←hA.term,hT],Q,hQ,fun q hq'=>by have:=hq q hq';rw [←hT,hA.term];omega⟩,fun p h1 h2 hu=>by rw [←hT];exact h.fin.t4 m hm p h1 h2 hu⟩
theorem idle_of (hc:CfgOK c) (hL:Less c K f M w g) (hK:K+c.n<65536) (hT:Tick c d w w') (hN:NoLed c w'):∃ A,Idle c d f M w w' A:=by
 obtain ⟨j,g',l3,a,b,e,l⟩:=tick_less (d:=d) hc hL hK
 have:=hT.eq a
 rw [this] at b e l
 rcases l with ⟨L,T,hL,hl⟩ | l
 ·exact absurd ⟨L,T,hL,hl⟩ hN
 ·exact ⟨_,l.idle hL (b.soft f) e⟩
def IsMax (c:Cfg) (nd:Nat→Nd) (M:Nat):Prop:=(∀ p,1≤p→p≤c.n→(nd p).term≤M)∧∃ p,(1≤p∧p≤c.n)∧(nd p).term=M
theorem list_max (f:Nat→Nat) (l:List Nat) (h:l≠[]):∃ M,(∀ p∈l,f p≤M)∧∃ p∈l,f p=M:=by
 induction l with
 | nil=>exact absurd rfl h
 | cons a l ih =>
  by_cases hl:l=[]
  ·subst hl;exact ⟨f a,fun p hp=>by obtain rfl:=List.mem_singleton.1 hp;exact Nat.le_refl _,a,by simp,rfl⟩
  ·obtain ⟨M,h1,p,hp,h2⟩:=ih hl
   by_cases hM:M≤f a
   ·refine ⟨f a,fun q hq=>?_,a,by simp,rfl⟩
    rcases List.mem_cons.1 hq with rfl | hq
    ·exact Nat.le_refl _
    ·exact Nat.le_trans (h1 q hq) hM
   ·refine ⟨M,fun q hq=>?_,p,by simp [hp],h2⟩
    rcases List.mem_cons.1 hq with rfl | hq
    ·omega
    ·exact h1 q hq
theorem exists_max (hn:1≤c.n) (nd:Nat→Nd):∃ M,IsMax c nd M:=by
 obtain ⟨M,h1,p,hp,h2⟩:=list_max (fun p=>(nd p).term) (List.range' 1 c.n) (fun h=>by have:=congrArg List.length h;rw [List.length_range'] at this;simp at this;omega)
 exact ⟨M,fun q a b=>h1 q (mem_all.2 ⟨a,b⟩),p,mem_all.1 hp,h2⟩
def below (c:Cfg) (nd:Nat→Nd) (M:Nat):Nat:=((List.range' 1 c.n).filter fun p=>decide ((nd p).term<M)).length
theorem below_maj {Q:List Nat} (hQ:Maj c.n Q) (h:∀ q∈Q,(nd q).term<M):c.n / 2<below c nd M:=by
 have:=nodup_le hQ.nd (R:=(List.range' 1 c.n).filter fun p=>decide ((nd p).term<M)) fun q hq=>List.mem_filter.2 ⟨mem_all.2 (hQ.rng q hq),decide_eq_true (h q hq)⟩
 have:=hQ.big
 unfold below
 omega
theorem filter_lt {l:List Nat} {P P':Nat→Bool} (h:∀ x∈l,P' x=true→P x=true) {a:Nat} (ha:a∈l) (h1:P a=true) (h2:P' a=false):(l.filter P').length<(l.filter P).length:=by
 induction l with
 | nil=>exact absurd ha (by simp)
 | cons b l ih =>
  have hle:∀ l:List Nat,(∀ x∈l,P' x=true→P x=true)→(l.filter P').length≤(l.filter P).length:=fun l=>by
   induction l with
   | nil=>intro _;exact Nat.le_refl _
   | cons b l ih =>
    intro h
    have:=ih fun x hx=>h x (by simp [hx])
    have hb:=h b (by simp)
    rw [List.filter_cons,List.filter_cons]
    by_cases hp:P' b=true
    ·rw [if_pos hp,if_pos (hb hp)];simpa using this
    ·rw [if_neg hp]
     split
     ·rw [List.length_cons];omega
     ·exact this
  rw [List.filter_cons,List.filter_cons]
  rcases List.mem_cons.1 ha with rfl | ha
  ·rw [if_neg (by rw [h2];simp),if_pos h1,List.length_cons]
   have:=hle l fun x hx=>h x (by simp [hx])
   omega
  ·have:=ih (fun x hx=>h x (by simp [hx])) ha
   have hb:=h b (by simp)
   by_cases hp:P' b=true
   ·rw [if_pos hp,if_pos (hb hp)];simpa using this
   ·rw [if_neg hp]
    split
    ·rw [List.length_cons];omega
    ·exact this
theorem filter_le {l:List Nat} {P P':Nat→Bool} (h:∀ x∈l,P' x=true→P x=true):(l.filter P').length≤(l.filter P).length:=by
 induction l with
 | nil=>exact Nat.le_refl _
 | cons b l ih =>
  have:=ih fun x hx=>h x (by simp [hx])
  have hb:=h b (by simp)
  rw [List.filter_cons,List.filter_cons]
  by_cases hp:P' b=true
  ·rw [if_pos hp,if_pos (hb hp)];simpa using this
  ·rw [if_neg hp]
   split
   ·rw [List.length_cons];omega
   ·exact this
theorem below_lt {nd':Nat→Nd} (h:∀ p,(nd p).term≤(nd' p).term) {X:Nat} (hX:1≤X∧X≤c.n) (h1:(nd X).term<M) (h2:M≤(nd' X).term):below c nd' M<below c nd M:=by
 refine filter_lt (a:=X) (fun x _ hx=>?_) (mem_all.2 hX) (decide_eq_true h1) (decide_eq_false (by omega))
 have:=of_decide_eq_true hx
 have:=h x
 exact decide_eq_true (by omega)
theorem below_le {nd':Nat→Nd} (h:∀ p,(nd p).term≤(nd' p).term):below c nd' M≤below c nd M:=by
 refine filter_le fun x _ hx=>?_
 have:=of_decide_eq_true hx
 have:=h x
 exact decide_eq_true (by omega)
theorem filter_all (l:List Nat):l.filter (fun _=>true)=l:=by
 rw [List.filter_eq_self];intros;rfl
theorem below_n {a:Nat} (ha:1≤a∧a≤c.n) (h:M≤(nd a).term):below c nd M+1≤c.n:=by
 have:=filter_lt (l:=List.range' 1 c.n) (P:=fun _=>true) (P':=fun p=>decide ((nd p).term<M)) (a:=a) (fun _ _ _=>rfl) (mem_all.2 ha) rfl (decide_eq_false (by omega))
 rw [filter_all,List.length_range'] at this
 exact this
theorem below_n2 {a b:Nat} (ha:1≤a∧a≤c.n) (hb:1≤b∧b≤c.n) (hne:a≠b) (h:M≤(nd a).term) (h':M≤(nd b).term):below c nd M+2≤c.n:=by
 have h1:=filter_lt (l:=List.range' 1 c.n) (P:=fun p=>decide (p≠a)) (P':=fun p=>decide ((nd p).term<M)) (a:=b) (fun x _ hx=>decide_eq_true fun e=>by have:=of_decide_eq_true hx;subst e;omega) (mem_all.2 hb) (decide_eq_true (fun e=>hne e.symm)) (decide_eq_false (by omega))
 have h2:=filter_lt (l:=List.range' 1 c.n) (P:=fun _=>true) (P':=fun p=>decide (p≠a)) (a:=a) (fun _ _ _=>rfl) (mem_all.2 ha) rfl (by simp)
 rw [filter_all,List.length_range'] at h2
 unfold below
 omega
theorem below_zero (h:∀ p,1≤p→p≤c.n→M≤(nd p).term):below c nd M=0:=by
 unfold below
 rw [List.length_eq_zero_iff,List.filter_eq_nil_iff]
 intro p hp
 have:=h p (mem_all.1 hp).1 (mem_all.1 hp).2
 simp
 omega
end
end Go.Proofs.YtocogcgnahbpkaaGreat.Rf
