import Derived.Test.YtocogcgnahbpkaaGreatC0
namespace Go.Proofs.YtocogcgnahbpkaaGreat.Rf
theorem upd2_at {α:Type} (f:Nat→Nat→α) (t q:Nat) (v:α):upd2 f t q v t q=v:=by simp [upd2]
theorem upd2_ne {α:Type} (f:Nat→Nat→α) {t q a b:Nat} (v:α) (h:¬ (a=t∧b=q)):upd2 f t q v a b=f a b:=by simp only [upd2,if_neg h]
theorem upd1_at {α:Type} (f:Nat→α) (t:Nat) (v:α):upd1 f t v t=v:=by simp [upd1]
theorem upd1_ne {α:Type} (f:Nat→α) {t a:Nat} (v:α) (h:a≠t):upd1 f t v a=f a:=by simp only [upd1,if_neg h]
section
variable {n:Nat} {nd:Nat→Nd} {g:Gh} {net:List Msg}
def Gh.cast (g:Gh) (T i c:Nat) (l:List Ent):Gh :=
 { g with voted:=upd2 g.voted T i c,vlog:=upd2 g.vlog T i l,clog:=if c=i then upd2 g.clog T i l else g.clog }
theorem Inv.cast (h:Inv n nd net g) (i c:Nat) (s:Nd) (hi:1≤i) (hin:i≤n) (hc0:c≠0) (hid:s.id=i) (hterm:s.term=(nd i).term) (hlog:s.log=(nd i).log)
  (hwas:(nd i).vote=0) (hv:s.vote=c) (hcm:s.commit=(nd i).commit) (hT:∀ k,tmL (nd i).log k<(nd i).term)
  (hc:c≠i→g.voted (nd i).term c=c∧upTo (g.clog (nd i).term c) (nd i).log)
  (h4:s.role=4→(nd i).role=4∧s.mt=(nd i).mt∧s.nx=(nd i).nx)
  (h3:s.role=3→c=i∧s.gr=[i]):Inv n (setN nd i s) net (g.cast (nd i).term i c (nd i).log):=by
 have htm:∀ q,(setN nd i s q).term=(nd q).term:=fun q=>by
  by_cases hq:q=i
  ·subst hq;rw [setN_at];exact hterm
  ·rw [setN_ne _ _ hq]
 have hv0:g.voted (nd i).term i=0:=by rw [h.voteN i];exact hwas
 have hclog:∀ t d,¬ (t=(nd i).term∧d=i)→(g.cast (nd i).term i c (nd i).log).clog t d=g.clog t d:=fun t d hne=>by
  unfold Gh.cast
  simp only
  split
  ·exact upd2_ne _ _ hne
  ·rfl
 have hself:c=i→(g.cast (nd i).term i c (nd i).log).clog (nd i).term i=(nd i).log:=fun he=>by
  unfold Gh.cast
  simp only [if_pos he]
  exact upd2_at ..
 have hvot:∀ t q,¬ (t=(nd i).term∧q=i)→(g.cast (nd i).term i c (nd i).log).voted t q=g.voted t q:=fun t q hne=>upd2_ne _ _ hne
 have hvot':(g.cast (nd i).term i c (nd i).log).voted (nd i).term i=c:=upd2_at ..
 have hvl:∀ t q,¬ (t=(nd i).term∧q=i)→(g.cast (nd i).term i c (nd i).log).vlog t q=g.vlog t q:=fun t q hne=>upd2_ne _ _ hne
 have hvl':(g.cast (nd i).term i c (nd i).log).vlog (nd i).term i=(nd i).log:=upd2_at ..
 have hkeep:∀ t q,g.voted t q≠0→¬ (t=(nd i).term∧q=i):=fun t q hne he=>hne (by rw [he.1,he.2];exact hv0)
 have e:Ext nd (setN nd i s) g (g.cast (nd i).term i c (nd i).log):=by
  refine ⟨fun q=>Nat.le_of_eq (htm q).symm,fun _ _=>Nat.le_refl _,fun _ _ x=>absurd rfl x,fun _ _ x=>⟨x,rfl⟩,fun _ _=>rfl,fun t q x=>hvot t q (hkeep t q x),fun t d x hd=>hclog t d (hkeep t d (by omega)),fun t q x=>hvl t q (hkeep t q x)⟩
 constructor
 ·intro j
  by_cases hj:j=i
  ·subst hj;rw [setN_at];exact hid
  ·rw [setN_ne _ _ hj];exact h.ids j
 ·intro j
  by_cases hj:j=i
  ·subst hj;exact fun _=>⟨hi,hin⟩
  ·rw [setN_ne _ _ hj];exact h.rng j
 ·exact h.llT
 ·exact fun t=>e.agree (h.llA t)
 ·intro t ht
  obtain ⟨a,Q,hQ,hq⟩:=h.llQ t ht
  have hq':∀ q,g.voted t q=g.lid t→(g.cast (nd i).term i c (nd i).log).voted t q=g.lid t:=fun q x=>by
   rw [hvot t q (hkeep t q (by rw [x];exact ht))];exact x
  exact ⟨hq' _ a,Q,hQ,fun q hm=>hq' q (hq q hm)⟩
 ·exact h.llN
 ·intro j
  by_cases hj:j=i
  ·subst hj;rw [setN_at];intro hr
   obtain ⟨a,b⟩:=h4 hr
   rw [hterm,hlog,b.1];exact h.lead j a
  ·rw [setN_ne _ _ hj];exact h.lead j
 ·intro j
  by_cases hj:j=i
  ·subst hj;rw [setN_at,hlog];intro hr
   obtain ⟨a,b,c⟩:=h4 hr
   rw [b,c];exact h.nxt j a
  ·rw [setN_ne _ _ hj];exact h.nxt j
 ·intro j
  by_cases hj:j=i
  ·subst hj;rw [setN_at,hterm,hv];exact hvot'
  ·rw [setN_ne _ _ hj,hvot _ _ (fun x=>hj x.2)];exact h.voteN j
 ·intro j t ht
  rw [htm] at ht
  rw [hvot _ _ (fun x=>by rw [x.1,x.2] at ht;omega)]
  exact h.voteF j t ht
 ·intro j
  by_cases hj:j=i
  ·subst hj;rw [setN_at];intro hr
   obtain ⟨a,b⟩:=h3 hr
   rw [hterm,hlog,b,hself a]
   refine ⟨by rw [hv,a],rfl,by simp,by simp,fun p hp=>?_⟩
   obtain rfl:p=j:=by simpa using hp
   exact ⟨⟨hi,hin⟩,by rw [hvot',a]⟩
  ·rw [setN_ne _ _ hj];intro hr
   obtain ⟨a,b,d,f,x⟩:=h.cand j hr
   refine ⟨a,by rw [hclog _ _ (fun y=>hj y.2)];exact b,d,f,fun p hp=>⟨(x p hp).1,?_⟩⟩
   have hj0:j≠0:=by have:=(x j f).1.1;omega
   rw [hvot _ _ (hkeep _ _ (by rw [(x p hp).2];exact hj0))]
   exact (x p hp).2
 ·intro j
  by_cases hj:j=i
  ·subst hj;rw [setN_at,hterm];intro hr he
   have:=(h.llQ (nd j).term (by show g.lid _≠0;rw [show g.lid (nd j).term=j from he];omega)).1
   rw [show g.lid (nd j).term=j from he,hv0] at this
   omega
  ·rw [setN_ne _ _ hj];exact h.candT j
 ·intro t q d hd hq
  by_cases hx:t=(nd i).term∧q=i
  ·obtain ⟨rfl,rfl⟩:=hx
   rw [hvot'] at hq
   subst hq
   rw [hvl']
   by_cases hce:c=q
   ·subst hce
    rw [hself rfl]
    exact ⟨hvot',.inr ⟨rfl,Nat.le_refl _⟩,e.agree (h.logA _),hT,e.agree (h.logA _),hT⟩
   ·obtain ⟨a,b⟩:=hc hce
    have hne:¬ ((nd q).term=(nd q).term∧c=q):=fun y=>hce y.2
    rw [hclog _ _ hne,hvot _ _ hne]
    obtain ⟨_,_,y,z,_⟩:=h.votes _ c c hc0 a
    exact ⟨a,b,e.agree y,z,e.agree (h.logA _),hT⟩
  ·rw [hvot _ _ hx] at hq
   obtain ⟨y,z⟩:=h.votes t q d hd hq
   rw [hvl _ _ hx,hvot _ _ (hkeep t d (by omega)),hclog _ _ (hkeep t d (by omega))]
   obtain ⟨b,c,d,f,x⟩:=z
   exact ⟨y,b,e.agree c,d,e.agree f,x⟩
 ·intro t t' k a b c d f;exact h.comp t t' k a b c d (e.choos f)
 ·intro t t' q k a b c' d f x
  by_cases hx:t'=(nd i).term∧q=i
  ·obtain ⟨rfl,rfl⟩:=hx
   rw [hvl']
   exact h.ncomp t q k c' d f (e.choos x)
  ·rw [hvl _ _ hx]
   rw [hvot _ _ hx] at b
   exact h.vcomp t t' q k a b c' d f (e.choos x)
 ·exact h.ackL
 ·intro j
  by_cases hj:j=i
  ·subst hj;rw [setN_at,hlog,hterm];exact h.ackN j
  ·rw [setN_ne _ _ hj];exact h.ackN j
 ·intro t q k a b c d
  have:=h.ncomp t q k a b c (e.choos d)
  by_cases hj:q=i
  ·subst hj;rw [setN_at,hlog];exact this
  ·rw [setN_ne _ _ hj];exact this
 ·intro j
  by_cases hj:j=i
  ·subst hj;rw [setN_at,hlog];exact e.agree (h.logA j)
  ·rw [setN_ne _ _ hj];exact e.agree (h.logA j)
 ·intro j k
  by_cases hj:j=i
  ·subst hj;rw [setN_at,hlog,hterm];exact h.logT j k
  ·rw [setN_ne _ _ hj];exact h.logT j k
 ·intro j
  by_cases hj:j=i
  ·subst hj;rw [setN_at,hlog,hterm,hcm];exact e.commOK h.ackL (h.comm j) (Nat.le_refl _) (h.comm j).1 rfl
  ·rw [setN_ne _ _ hj];exact e.commOK h.ackL (h.comm j) (Nat.le_refl _) (h.comm j).1 rfl
 ·intro m hm
  rw [htm]
  exact ⟨e.msg h.ackL (h.msgs m hm).1,(h.msgs m hm).2⟩
def Gh.grow (g:Gh) (T i:Nat) (l:List Ent):Gh :=
 { g with lid:=upd1 g.lid T i,llog:=upd1 g.llog T l,ack:=upd2 g.ack T i l.length }
theorem tmL_pre {l l':List Ent} (hp:l <+: l') {k:Nat} (hk:k≤l.length):tmL l' k=tmL l k:=by
 obtain ⟨r,rfl⟩:=hp
 exact tmL_append l r hk
theorem take_pre {l l':List Ent} (hp:l <+: l') {k:Nat} (hk:k≤l.length):l'.take k=l.take k:=by
 obtain ⟨r,rfl⟩:=hp
 exact List.take_append_of_le_length hk
theorem Inv.grow (h:Inv n nd net g) (i:Nat) (s:Nd) (L:List Ent) (hi:1≤i) (hin:i≤n) (hid:s.id=i) (hterm:s.term=(nd i).term) (hL:s.log=L) (hvote:s.vote=(nd i).vote) (hcm:s.commit=(nd i).commit) (hrole:s.role=4)
  (hlid:g.lid (nd i).term=0∨(g.lid (nd i).term=i∧(nd i).role≠3)) (hpre:(g.llog (nd i).term) <+: L) (hpre':(nd i).log <+: L) (hnew:∀ k,(nd i).log.length<k→k≤L.length→tmL L k=(nd i).term) (hT:1≤(nd i).term)
  (hQ:g.voted (nd i).term i=i∧∃ Q,Maj n Q∧∀ q∈Q,g.voted (nd i).term q=i)
  (hcomp:∀ t k,t<(nd i).term→1≤k→tmL (g.llog t) k=t→Choos n nd g t k→k≤L.length∧L.take k=(g.llog t).take k)
  (hmt:∀ p,p≠i→s.mt p≤g.ack (nd i).term p∧s.mt p<s.nx p∧s.nx p≤L.length+1):Inv n (setN nd i s) net (g.grow (nd i).term i L):=by
 have htm:∀ q,(setN nd i s q).term=(nd q).term:=fun q=>by
  by_cases hq:q=i
  ·subst hq;rw [setN_at];exact hterm
  ·rw [setN_ne _ _ hq]
 have lidT:(g.grow (nd i).term i L).lid (nd i).term=i:=upd1_at ..
 have lidF:∀ t,t≠(nd i).term→(g.grow (nd i).term i L).lid t=g.lid t:=fun t ht=>upd1_ne _ _ ht
 have llT:(g.grow (nd i).term i L).llog (nd i).term=L:=upd1_at ..
 have llF:∀ t,t≠(nd i).term→(g.grow (nd i).term i L).llog t=g.llog t:=fun t ht=>upd1_ne _ _ ht
 have acT:(g.grow (nd i).term i L).ack (nd i).term i=L.length:=upd2_at ..
 have acF:∀ t q,¬ (t=(nd i).term∧q=i)→(g.grow (nd i).term i L).ack t q=g.ack t q:=fun t q hne=>upd2_ne _ _ hne
 have e:Ext nd (setN nd i s) g (g.grow (nd i).term i L):=by
  refine ⟨fun q=>Nat.le_of_eq (htm q).symm,fun t q=>?_,fun t q hne=>?_,fun t k hk=>?_,fun t ht=>?_,fun _ _ _=>rfl,fun _ _ _ _=>rfl,fun _ _ _=>rfl⟩
  ·by_cases hx:t=(nd i).term∧q=i
   ·obtain ⟨rfl,rfl⟩:=hx
    rw [acT];exact Nat.le_trans (h.ackL _ _) hpre.length_le
   ·rw [acF _ _ hx];exact Nat.le_refl _
  ·by_cases hx:t=(nd i).term∧q=i
   ·obtain ⟨rfl,rfl⟩:=hx;exact Nat.le_refl _
   ·exact absurd (acF _ _ hx) hne
  ·by_cases hx:t=(nd i).term
   ·subst hx;rw [llT];exact ⟨Nat.le_trans hk hpre.length_le,take_pre hpre hk⟩
   ·rw [llF _ hx];exact ⟨hk,rfl⟩
  ·by_cases hx:t=(nd i).term
   ·subst hx;rw [lidT];rcases hlid with y | y
    ·exact absurd y ht
    ·exact y.1.symm
   ·exact lidF _ hx
 have hAL:Agree (g.grow (nd i).term i L) L:=fun k h1 hk=>by
  by_cases hx:k≤(nd i).log.length
  ·have:=e.agree (h.logA i) k h1 hx
   rw [tmL_pre hpre' hx,take_pre hpre' hx];exact this
  ·have ht:=hnew k (by omega) hk
   rw [ht,llT,lidT];exact ⟨hT,by omega,hk,rfl⟩
 have hTL:∀ k,tmL L k≤(nd i).term:=fun k=>by
  by_cases hx:k≤(nd i).log.length
  ·rw [tmL_pre hpre' hx];exact h.logT i k
  ·by_cases hy:k≤L.length
   ·exact Nat.le_of_eq (hnew k (by omega) hy)
   ·rw [tmL_past L (by omega)];exact Nat.zero_le _
 have hold:∀ t k t',t<t'→(g.grow (nd i).term i L).lid t'≠0→g.lid t'≠0→Choos n (setN nd i s) (g.grow (nd i).term i L) t k→1≤k→t=(nd i).term→k≤(g.llog t).length:=fun t k t' a _ b c d f=>by
  obtain ⟨Q,hQ,hq⟩:=c
  obtain ⟨R,hR,hr⟩:=(h.llQ t' b).2
  obtain ⟨x,hx1,hx2⟩:=hQ.meet hR
  have hxt:t'≤(nd x).term:=by
   refine Classical.byContradiction fun hn=>?_
   have:=(h.voteF x t' (by omega)).1
   rw [hr x hx2] at this
   exact b this
  have hxi:x≠i:=fun hh=>by subst hh;omega
  rcases hq x hx1 with y | y
  ·rw [acF _ _ (fun z=>hxi z.2)] at y
   exact Nat.le_trans y (h.ackL _ _)
  ·rw [htm] at y;omega
 constructor
 ·intro j
  by_cases hj:j=i
  ·subst hj;rw [setN_at];exact hid
  ·rw [setN_ne _ _ hj];exact h.ids j
 ·intro j
  by_cases hj:j=i
  ·subst hj;exact fun _=>⟨hi,hin⟩
  ·rw [setN_ne _ _ hj];exact h.rng j
 ·intro t k
  by_cases hx:t=(nd i).term
  ·subst hx;rw [llT];exact hTL k
  ·rw [llF _ hx];exact h.llT t k
 ·intro t
  by_cases hx:t=(nd i).term
  ·subst hx;rw [llT];exact hAL
  ·rw [llF _ hx];exact e.agree (h.llA t)
 ·intro t ht
  by_cases hx:t=(nd i).term
  ·subst hx;rw [lidT];exact hQ
  ·rw [lidF _ hx] at ht ⊢;exact h.llQ t ht
 ·intro t ht
  have hx:t≠(nd i).term:=fun hx=>by rw [hx,lidT] at ht;omega
  rw [lidF _ hx] at ht
  rw [llF _ hx]
  exact ⟨(h.llN t ht).1,fun q=>by rw [acF _ _ (fun z=>hx z.1)];exact (h.llN t ht).2 q⟩
 ·intro j
  by_cases hj:j=i
  ·subst hj;rw [setN_at,hterm,lidT,llT,acT,hL]
   exact fun _=>⟨rfl,rfl,rfl,fun p hp=>by rw [acF _ _ (fun z=>hp z.2)];exact (hmt p hp).1⟩
  ·rw [setN_ne _ _ hj];intro hr
   obtain ⟨a,b,c,d⟩:=h.lead j hr
   have hx:(nd j).term≠(nd i).term:=fun hx=>by
    rw [hx] at a
    rcases hlid with y | y
    ·rw [y] at a
     have:=(h.rng j (by omega)).1
     omega
    ·rw [y.1] at a;exact hj a.symm
   rw [lidF _ hx,llF _ hx]
   exact ⟨a,b,by rw [acF _ _ (fun z=>hx z.1)];exact c,fun p hp=>by rw [acF _ _ (fun z=>hx z.1)];exact d p hp⟩
 ·intro j
  by_cases hj:j=i
  ·subst hj;rw [setN_at,hL];exact fun _ p hp=>(hmt p hp).2
  ·rw [setN_ne _ _ hj];exact h.nxt j
 ·intro j
  by_cases hj:j=i
  ·subst hj;rw [setN_at,hterm,hvote];exact h.voteN j
  ·rw [setN_ne _ _ hj];exact h.voteN j
 ·intro j t ht
  rw [htm] at ht
  rw [acF _ _ (fun x=>by rw [x.1,x.2] at ht;omega)]
  exact h.voteF j t ht
 ·intro j
  by_cases hj:j=i
  ·subst hj;rw [setN_at];intro hr;omega
  ·rw [setN_ne _ _ hj];exact h.cand j
 ·intro j
  by_cases hj:j=i
  ·subst hj;rw [setN_at];intro hr;omega
  ·rw [setN_ne _ _ hj];intro hr
   by_cases hx:(nd j).term=(nd i).term
   ·rw [hx,lidT];exact fun y=>hj y.symm
   ·rw [lidF _ hx];exact h.candT j hr
 ·intro t q c hc hq
  obtain ⟨a,b,d,f,x,y⟩:=h.votes t q c hc hq
  exact ⟨a,b,e.agree d,f,e.agree x,y⟩
 ·intro t t' k a b c d f
  have hch:=e.choos f
  by_cases hx':t'=(nd i).term
  ·subst hx'
   have hx:t≠(nd i).term:=by omega
   rw [llF _ hx] at d ⊢
   rw [llT]
   exact hcomp t k a c d hch
  ·rw [lidF _ hx'] at b
   rw [llF _ hx']
   by_cases hx:t=(nd i).term
   ·have hk:=hold t k t' a (by rw [lidF _ hx'];exact b) b f c hx
    rw [e.tmL hk] at d
    rw [(e.llog t k hk).2]
    exact h.comp t t' k a b c d hch
   ·rw [llF _ hx] at d ⊢
    exact h.comp t t' k a b c d hch
 ·intro t t' q k a b c d f x
  have hch:=e.choos x
  by_cases hx:t=(nd i).term∧q=i
  ·obtain ⟨rfl,rfl⟩:=hx
   exact absurd (h.voteF q t' a).1 b
  ·rw [acF _ _ hx] at d
   have hk:=Nat.le_trans d (h.ackL t q)
   rw [e.tmL hk] at f
   rw [(e.llog t k hk).2]
   exact h.vcomp t t' q k a b c d f hch
 ·intro t q
  by_cases hx:t=(nd i).term∧q=i
  ·obtain ⟨rfl,rfl⟩:=hx
   rw [acT,llT];exact Nat.le_refl _
  ·rw [acF _ _ hx]
   exact (e.llog t _ (h.ackL t q)).1
 ·intro j
  by_cases hj:j=i
  ·subst hj;rw [setN_at,hterm,hL,acT,llT]
   exact ⟨Nat.le_refl _,rfl⟩
  ·rw [setN_ne _ _ hj,acF _ _ (fun x=>hj x.2)]
   have:=h.ackN j
   exact ⟨this.1,by rw [this.2,(e.llog _ _ (h.ackL _ _)).2]⟩
 ·intro t q k a b c d
  by_cases hx:t=(nd i).term∧q=i
  ·obtain ⟨rfl,rfl⟩:=hx
   rw [acT] at b
   rw [setN_at,hL,llT]
   exact ⟨b,rfl⟩
  ·rw [acF _ _ hx] at b
   have hk:=Nat.le_trans b (h.ackL t q)
   rw [e.tmL hk] at c
   rw [(e.llog t k hk).2]
   have:=h.ncomp t q k a b c (e.choos d)
   by_cases hj:q=i
   ·subst hj;rw [setN_at,hL]
    exact ⟨Nat.le_trans this.1 hpre'.length_le,by rw [take_pre hpre' this.1];exact this.2⟩
   ·rw [setN_ne _ _ hj];exact this
 ·intro j
  by_cases hj:j=i
  ·subst hj;rw [setN_at,hL];exact hAL
  ·rw [setN_ne _ _ hj];exact e.agree (h.logA j)
 ·intro j k
  by_cases hj:j=i
  ·subst hj;rw [setN_at,hL,hterm];exact hTL k
  ·rw [setN_ne _ _ hj];exact h.logT j k
 ·intro j
  by_cases hj:j=i
  ·subst hj;rw [setN_at,hL,hterm,hcm]
   exact e.commOK h.ackL (h.comm j) (Nat.le_refl _) (Nat.le_trans (h.comm j).1 hpre'.length_le) (take_pre hpre' (h.comm j).1)
  ·rw [setN_ne _ _ hj];exact e.commOK h.ackL (h.comm j) (Nat.le_refl _) (h.comm j).1 rfl
 ·intro m hm
  rw [htm]
  exact ⟨e.msg h.ackL (h.msgs m hm).1,(h.msgs m hm).2⟩
def Gh.took (g:Gh) (T i r:Nat):Gh:={ g with ack:=upd2 g.ack T i (max (g.ack T i) r) }
theorem Inv.take (h:Inv n nd net g) (i r:Nat) (s:Nd) (hi:1≤i) (hin:i≤n) (hid:s.id=i) (hterm:s.term=(nd i).term) (hvote:s.vote=(nd i).vote) (hcm:s.commit=(nd i).commit) (hrole:s.role=1)
  (hlid:g.lid (nd i).term≠0) (hr:r≤(g.llog (nd i).term).length) (hrl:r≤s.log.length) (hpre:s.log.take r=(g.llog (nd i).term).take r)
  (hlog:s.log=(nd i).log∨(s.log=(g.llog (nd i).term).take r∧∀ k,k≤(nd i).log.length→(nd i).log.take k=(g.llog (nd i).term).take k→k≤r)):Inv n (setN nd i s) net (g.took (nd i).term i r):=by
 have htm:∀ q,(setN nd i s q).term=(nd q).term:=fun q=>by
  by_cases hq:q=i
  ·subst hq;rw [setN_at];exact hterm
  ·rw [setN_ne _ _ hq]
 have acT:(g.took (nd i).term i r).ack (nd i).term i=max (g.ack (nd i).term i) r:=upd2_at ..
 have acF:∀ t q,¬ (t=(nd i).term∧q=i)→(g.took (nd i).term i r).ack t q=g.ack t q:=fun t q hne=>upd2_ne _ _ hne
 have e:Ext nd (setN nd i s) g (g.took (nd i).term i r):=by
  refine ⟨fun q=>Nat.le_of_eq (htm q).symm,fun t q=>?_,fun t q hne=>?_,fun _ _ x=>⟨x,rfl⟩,fun _ _=>rfl,fun _ _ _=>rfl,fun _ _ _ _=>rfl,fun _ _ _=>rfl⟩
  ·by_cases hx:t=(nd i).term∧q=i
   ·obtain ⟨rfl,rfl⟩:=hx
    rw [acT];exact Nat.le_max_left ..
   ·rw [acF _ _ hx];exact Nat.le_refl _
  ·by_cases hx:t=(nd i).term∧q=i
   ·obtain ⟨rfl,rfl⟩:=hx;exact Nat.le_refl _
   ·exact absurd (acF _ _ hx) hne
 have hkeep:∀ k,k≤(nd i).log.length→(nd i).log.take k=(g.llog (nd i).term).take k→k≤s.log.length∧s.log.take k=(nd i).log.take k:=fun k hk hp=>by
  rcases hlog with y | ⟨y,z⟩
  ·rw [y];exact ⟨hk,rfl⟩
  ·have:=z k hk hp
   refine ⟨by omega,?_⟩
   rw [y,List.take_take,Nat.min_eq_left this,hp]
 have hack:max (g.ack (nd i).term i) r≤s.log.length∧s.log.take (max (g.ack (nd i).term i) r)=(g.llog (nd i).term).take (max (g.ack (nd i).term i) r):=by
  have:=h.ackN i
  have hk:=hkeep _ this.1 this.2
  by_cases hx:g.ack (nd i).term i≤r
  ·rw [Nat.max_eq_right hx];exact ⟨hrl,hpre⟩
  ·rw [Nat.max_eq_left (by omega)]
   exact ⟨hk.1,by rw [hk.2,this.2]⟩
 constructor
 ·intro j
  by_cases hj:j=i
  ·subst hj;rw [setN_at];exact hid
  ·rw [setN_ne _ _ hj];exact h.ids j
 ·intro j
  by_cases hj:j=i
  ·subst hj;exact fun _=>⟨hi,hin⟩
  ·rw [setN_ne _ _ hj];exact h.rng j
 ·exact h.llT
 ·exact fun t=>e.agree (h.llA t)
 ·exact h.llQ
 ·intro t ht
  refine ⟨(h.llN t ht).1,fun q=>?_⟩
  rw [acF _ _ (fun x=>hlid (by rw [←x.1];exact ht))]
  exact (h.llN t ht).2 q
 ·intro j
  by_cases hj:j=i
  ·subst hj;rw [setN_at];intro hr;omega
  ·rw [setN_ne _ _ hj];intro hr
   obtain ⟨a,b,c,d⟩:=h.lead j hr
   exact ⟨a,b,by rw [acF _ _ (fun x=>hj x.2)];exact c,fun p hp=>Nat.le_trans (d p hp) (e.ack _ _)⟩
 ·intro j
  by_cases hj:j=i
  ·subst hj;rw [setN_at];intro hr;omega
  ·rw [setN_ne _ _ hj];exact h.nxt j
 ·intro j
  by_cases hj:j=i
  ·subst hj;rw [setN_at,hterm,hvote];exact h.voteN j
  ·rw [setN_ne _ _ hj];exact h.voteN j
 ·intro j t ht
  rw [htm] at ht
  rw [acF _ _ (fun x=>by rw [x.1,x.2] at ht;omega)]
  exact h.voteF j t ht
 ·intro j
  by_cases hj:j=i
  ·subst hj;rw [setN_at];intro hr;omega
  ·rw [setN_ne _ _ hj];exact h.cand j
 ·intro j
  by_cases hj:j=i
  ·subst hj;rw [setN_at];intro hr;omega
  ·rw [setN_ne _ _ hj];exact h.candT j
 ·exact fun t q c hc hq=>by
   obtain ⟨a,b,d,f,x,y⟩:=h.votes t q c hc hq
   exact ⟨a,b,e.agree d,f,e.agree x,y⟩
 ·intro t t' k a b c d f;exact h.comp t t' k a b c d (e.choos f)
 ·intro t t' q k a b c d f x
  by_cases hx:t=(nd i).term∧q=i
  ·obtain ⟨rfl,rfl⟩:=hx
   exact absurd (h.voteF q t' a).1 b
  ·rw [acF _ _ hx] at d
   exact h.vcomp t t' q k a b c d f (e.choos x)
 ·intro t q
  by_cases hx:t=(nd i).term∧q=i
  ·obtain ⟨rfl,rfl⟩:=hx
   rw [acT];exact Nat.max_le.2 ⟨h.ackL _ _,hr⟩
  ·rw [acF _ _ hx];exact h.ackL t q
 ·intro j
  by_cases hj:j=i
  ·subst hj;rw [setN_at,hterm,acT];exact hack
  ·rw [setN_ne _ _ hj,acF _ _ (fun x=>hj x.2)];exact h.ackN j
 ·intro t q k a b c d
  by_cases hx:t=(nd i).term∧q=i
  ·obtain ⟨rfl,rfl⟩:=hx
   rw [acT] at b
   rw [setN_at]
   exact ⟨Nat.le_trans b hack.1,take_of_take hack.2 b⟩
  ·rw [acF _ _ hx] at b
   have:=h.ncomp t q k a b c (e.choos d)
   by_cases hj:q=i
   ·subst hj;rw [setN_at]
    have ht:t<(nd q).term:=by
     rcases Nat.lt_or_ge t (nd q).term with y | y
     ·exact y
     ·have:t≠(nd q).term:=fun z=>hx ⟨z,rfl⟩
      have:=(h.voteF q t (by omega)).2
      omega
    have hcm:=h.comp t _ k ht hlid a c (e.choos d)
    have:=hkeep k this.1 (by rw [this.2,hcm.2])
    exact ⟨this.1,by rw [this.2];exact (h.ncomp t q k a b c (e.choos d)).2⟩
   ·rw [setN_ne _ _ hj];exact this
 ·intro j
  by_cases hj:j=i
  ·subst hj;rw [setN_at]
   rcases hlog with y | ⟨y,_⟩
   ·rw [y];exact e.agree (h.logA j)
   ·rw [y];exact e.agree ((h.llA _).take r)
  ·rw [setN_ne _ _ hj];exact e.agree (h.logA j)
 ·intro j k
  by_cases hj:j=i
  ·subst hj;rw [setN_at,hterm]
   rcases hlog with y | ⟨y,_⟩
   ·rw [y];exact h.logT j k
   ·rw [y]
    by_cases hk:k≤r
    ·rw [tmL_take _ hk];exact h.llT _ _
    ·rw [tmL_past _ (by rw [List.length_take];omega)];exact Nat.zero_le _
  ·rw [setN_ne _ _ hj];exact h.logT j k
 ·intro j
  by_cases hj:j=i
  ·subst hj;rw [setN_at,hterm,hcm]
   have hcj:=h.comm j
   obtain ⟨a,b⟩:=hcj
   have hpl:(nd j).log.take (nd j).commit=(g.llog (nd j).term).take (nd j).commit:=by
    rcases b with y | ⟨t0,c',y,z,w,v⟩
    ·rw [y];simp
    ·rcases Nat.lt_or_ge t0 (nd j).term with u | u
     ·have:=h.comp t0 _ c' u hlid w.1 w.2.1 w.choos
      rw [v];exact (take_of_take this.2 z).symm
     ·rw [v,show t0=(nd j).term by omega]
   have:=hkeep _ a hpl
   exact e.commOK h.ackL (h.comm j) (Nat.le_refl _) this.1 this.2
  ·rw [setN_ne _ _ hj];exact e.commOK h.ackL (h.comm j) (Nat.le_refl _) (h.comm j).1 rfl
 ·intro m hm
  rw [htm]
  exact ⟨e.msg h.ackL (h.msgs m hm).1,(h.msgs m hm).2⟩
end
theorem Ext.trans {nd nd' nd'':Nat→Nd} {g g' g'':Gh} (a:Ext nd nd' g g') (b:Ext nd' nd'' g' g''):Ext nd nd'' g g'':=by
 refine ⟨fun q=>Nat.le_trans (a.tm q) (b.tm q),fun t q=>Nat.le_trans (a.ack t q) (b.ack t q),fun t q h=>?_,fun t k h=>?_,fun t h=>?_,fun t q h=>?_,fun t c h h'=>?_,fun t q h=>?_⟩
 ·by_cases x:g'.ack t q=g.ack t q
  ·exact Nat.le_trans (a.tm q) (b.ackN t q (by rw [x];exact h))
  ·exact a.ackN t q x
 ·have x:=a.llog t k h
  have y:=b.llog t k x.1
  exact ⟨y.1,by rw [y.2,x.2]⟩
 ·rw [b.lid t (by rw [a.lid t h];exact h),a.lid t h]
 ·rw [b.voted t q (by rw [a.voted t q h];exact h),a.voted t q h]
 ·rw [b.clog t c (by rw [a.voted t c (by omega)];exact h) h',a.clog t c h h']
 ·rw [b.vlog t q (by rw [a.voted t q h];exact h),a.vlog t q h]
theorem setN_setN (nd:Nat→Nd) (i:Nat) (s s':Nd):setN (setN nd i s) i s'=setN nd i s':=by
 funext j
 by_cases h:j=i
 ·subst h;rw [setN_at,setN_at]
 ·rw [setN_ne _ _ h,setN_ne _ _ h,setN_ne _ _ h]
theorem setN_self (nd:Nat→Nd) (i:Nat):setN nd i (nd i)=nd:=by
 funext j
 by_cases h:j=i
 ·subst h;rw [setN_at]
 ·rw [setN_ne _ _ h]
section
variable {n:Nat} {nd:Nat→Nd} {g g0:Gh} {net:List Msg} {i:Nat} {s s':Nd} {ms ms':List Msg} {c:Cfg} {draw:Int}
def Good (n:Nat) (nd:Nat→Nd) (i:Nat) (net:List Msg) (g0:Gh) (s:Nd) (ms:List Msg):Prop :=
 (1≤i∧i≤n)∧∃ g,Inv n (setN nd i s) (net++ms) g∧Ext nd (setN nd i s) g0 g
theorem Good.start (h:Inv n nd net g) (hi:1≤i∧i≤n):Good n nd i net g (nd i) []:=by
 refine ⟨hi,g,?_,?_⟩
 ·rw [setN_self,List.append_nil];exact h
 ·rw [setN_self];exact .refl fun _=>Nat.le_refl _
theorem Good.to (hG:Good n nd i net g0 s ms) (h:∀ g,Inv n (setN nd i s) (net++ms) g→∃ g',Inv n (setN (setN nd i s) i s') (net++ms') g'∧Ext (setN nd i s) (setN (setN nd i s) i s') g g'):Good n nd i net g0 s' ms':=by
 obtain ⟨hi,g,a,b⟩:=hG
 obtain ⟨g',x,y⟩:=h g a
 rw [setN_setN] at x y
 exact ⟨hi,g',x,b.trans y⟩
theorem ext_same (h:s.term≤s'.term):Ext (setN nd i s) (setN (setN nd i s) i s') g g:=.refl fun q=>by
 by_cases hq:q=i
 ·subst hq;rw [setN_setN,setN_at,setN_at];exact h
 ·rw [setN_setN,setN_ne _ _ hq,setN_ne _ _ hq];exact Nat.le_refl _
theorem Good.node (hG:Good n nd i net g0 s ms) (hid:s'.id=s.id) (hterm:s.term≤s'.term) (hlog:s'.log=s.log)
  (hv:s'.vote=if s.term<s'.term then 0 else s.vote)
  (h4:s'.role=4→s.role=4∧s'.term=s.term∧(∀ p,p≠i→s'.mt p<s'.nx p∧s'.nx p≤s'.log.length+1))
  (hmt:∀ g,Inv n (setN nd i s) (net++ms) g→s'.role=4→∀ p,p≠i→s'.mt p≤g.ack s'.term p)
  (h3:s'.role=3→s.role=3∧s'.term=s.term)
  (hgr:∀ g,Inv n (setN nd i s) (net++ms) g→s'.role=3→s'.gr.Nodup∧i∈s'.gr∧∀ p∈s'.gr,(1≤p∧p≤n)∧g.voted s'.term p=i)
  (hc:∀ g,Inv n (setN nd i s) (net++ms) g→CommOK n g s'.term s'.log s'.commit):Good n nd i net g0 s' ms:=by
 refine hG.to fun g hI=>⟨g,?_,ext_same hterm⟩
 have hid':=hI.ids i
 rw [setN_at] at hid'
 refine hI.node i s' hG.1 (by rw [hid,hid']) (by rw [setN_at];exact hterm) (by rw [setN_at];exact hlog) (by rw [setN_at];exact hv) ?_ ?_ (hc g hI)
 ·rw [setN_at];exact fun hr=>⟨(h4 hr).1,(h4 hr).2.1,fun p hp=>⟨hmt g hI hr p hp,(h4 hr).2.2 p hp⟩⟩
 ·rw [setN_at];exact fun hr=>⟨(h3 hr).1,(h3 hr).2,hgr g hI hr⟩
theorem Good.nodeFacts (hI:Inv n (setN nd i s) net g):s.id=i∧(s.role=4→g.lid s.term=i∧g.llog s.term=s.log∧g.ack s.term i=s.log.length∧∀ p,p≠i→s.mt p≤g.ack s.term p)∧(s.role=4→∀ p,p≠i→s.mt p<s.nx p∧s.nx p≤s.log.length+1) ∧
  (s.role=3→s.vote=i∧g.clog s.term i=s.log∧s.gr.Nodup∧i∈s.gr∧∀ p∈s.gr,(1≤p∧p≤n)∧g.voted s.term p=i)∧CommOK n g s.term s.log s.commit∧Agree g s.log∧(∀ k,tmL s.log k≤s.term)∧g.voted s.term i=s.vote:=by
 have a:=hI.ids i
 have b:=hI.lead i
 have c:=hI.nxt i
 have d:=hI.cand i
 have e:=hI.comm i
 have f:=hI.logA i
 have x:=hI.logT i
 have y:=hI.voteN i
 rw [setN_at] at a b c d e f x y
 exact ⟨a,b,c,d,e,f,x,y⟩
structure Same (s s':Nd):Prop where
 id:s'.id=s.id
 term:s'.term=s.term
 vote:s'.vote=s.vote
 log:s'.log=s.log
 commit:s'.commit=s.commit
 role:s'.role=s.role∨s'.role=1∨s'.role=2
 mt:s'.mt=s.mt
 nx:s'.nx=s.nx
 gr:s'.gr=s.gr∨s'.role=2∨s.role≠3
theorem Good.soft (hG:Good n nd i net g0 s ms) (h:Same s s'):Good n nd i net g0 s' ms:=by
 have hi:=hG.1
 obtain ⟨_,g1,hI1,_⟩:=hG
 have hr4:s'.role=4→s.role=4:=fun hr=>by rcases h.role with x | x | x <;> omega
 have hr3:s'.role=3→s.role=3:=fun hr=>by rcases h.role with x | x | x <;> omega
 refine Good.node ⟨hi,g1,hI1,by assumption⟩ h.id (by rw [h.term];exact Nat.le_refl _) h.log (by rw [h.term,if_neg (Nat.lt_irrefl _)];exact h.vote) ?_ ?_ ?_ ?_ ?_
 ·intro hr
  have:=(Good.nodeFacts hI1).2.2.1 (hr4 hr)
  exact ⟨hr4 hr,h.term,by rw [h.mt,h.nx,h.log];exact this⟩
 ·intro g hI hr
  rw [h.mt,h.term]
  exact ((Good.nodeFacts hI).2.1 (hr4 hr)).2.2.2
 ·exact fun hr=>⟨hr3 hr,h.term⟩
 ·intro g hI hr
  have:=((Good.nodeFacts hI).2.2.2.1 (hr3 hr)).2.2
  rcases h.gr with x | x | x
  ·rw [x,h.term];exact this
  ·omega
  ·exact absurd (hr3 hr) x
 ·intro g hI
  rw [h.term,h.log,h.commit]
  exact (Good.nodeFacts hI).2.2.2.2.1
theorem Good.send (hG:Good n nd i net g0 s ms) (new:List Msg) (h:∀ g,Inv n (setN nd i s) (net++ms) g→∀ m∈new,MsgOK n g m∧m.src=i∧termOf m s.term):Good n nd i net g0 s (ms++new):=by
 refine hG.to fun g hI=>⟨g,?_,ext_same (Nat.le_refl _)⟩
 rw [setN_setN]
 refine hI.net' fun m hm=>?_
 rw [←List.append_assoc] at hm
 rcases List.mem_append.1 hm with x | x
 ·exact .inl x
 ·obtain ⟨a,b,d⟩:=h g hI m x
  exact .inr ⟨a,by rw [b,setN_at];exact d⟩
theorem Good.rest (hG:Good n nd i net g0 s ms):Good n nd i net g0 (rest c draw s) ms:=hG.soft ⟨rfl,rfl,rfl,rfl,rfl,.inl rfl,rfl,rfl,.inl rfl⟩
theorem Good.follow (hG:Good n nd i net g0 s ms) (t l:Nat):Good n nd i net g0 (follow c draw t l s) ms:=by
 refine hG.node rfl (Nat.le_max_left ..) rfl ?_ ?_ ?_ ?_ ?_ ?_
 ·show (if s.term<t then 0 else s.vote)=if s.term<max s.term t then 0 else s.vote
  by_cases x:s.term<t
  ·rw [if_pos x,if_pos (by omega)]
  ·rw [if_neg x,if_neg (by omega)]
 ·intro hr;exact absurd hr (by show ¬ ((1:Nat)=4);omega)
 ·intro g hI hr;exact absurd hr (by show ¬ ((1:Nat)=4);omega)
 ·intro hr;exact absurd hr (by show ¬ ((1:Nat)=3);omega)
 ·intro g hI hr;exact absurd hr (by show ¬ ((1:Nat)=3);omega)
 ·intro g hI
  have:=(Good.nodeFacts hI).2.2.2.2.1
  refine ⟨this.1,?_⟩
  rcases this.2 with x | ⟨t0,c',x,y⟩
  ·exact .inl x
  ·exact .inr ⟨t0,c',Nat.le_trans x (Nat.le_max_left ..),y⟩
theorem mem_others {id p:Nat}:p∈others c id↔(1≤p∧p≤c.n)∧p≠id:=by
 unfold others
 rw [List.mem_filter,List.mem_range'_1]
 constructor
 ·rintro ⟨a,b⟩;exact ⟨by omega,by simpa using b⟩
 ·rintro ⟨a,b⟩;exact ⟨by omega,by simpa using b⟩
theorem nodup_others (c:Cfg) (id:Nat):(others c id).Nodup:=(List.nodup_range' (step:=1) (by omega)).filter _
theorem app_ok (hb:c.batch≤16) (hn:c.n=n) (hI:Inv n (setN nd i s) net g) (hi:1≤i∧i≤n) (hr:s.role=4) {p:Nat} (hp:p∈others c s.id):MsgOK n g (app c s p)∧(app c s p).src=i∧termOf (app c s p) s.term:=by
 obtain ⟨hid,hl,hx,_,hcm,hA,hT,_⟩:=Good.nodeFacts hI
 obtain ⟨a,b,d,f⟩:=hl hr
 rw [hid] at hp
 obtain ⟨hp1,hp2⟩:=mem_others.1 hp
 rw [hn] at hp1
 obtain ⟨x,y⟩:=hx hr p hp2
 have hT1:1≤s.term:=by
  rcases Nat.eq_zero_or_pos s.term with h0 | h0
  ·have:=(hI.llQ s.term (by rw [a];omega)).1
   rw [a] at this
   have:=hI.votes s.term i i (by omega) this
   have:=this.2.2.2.1 0
   omega
  ·exact h0
 have hlen:((s.log.drop (s.nx p-1)).take c.batch).length≤s.log.length-(s.nx p-1):=by rw [List.length_take,List.length_drop];omega
 refine ⟨⟨⟨by simp [app],?_,hT1,?_,fun _=>?_,fun h=>absurd rfl h,?_,fun h=>?_⟩,⟨?_,hp1⟩,fun h=>?_,fun h=>?_,fun _=>?_,fun h=>?_⟩,hid,fun h=>?_,fun h=>?_,fun _=>Nat.le_refl _⟩
 ·show s.id≠p;rw [hid];exact fun h=>hp2 h.symm
 ·exact hT _
 ·show tmL s.log (s.nx p-1)=0↔s.nx p-1=0
  constructor
  ·intro h
   rcases Nat.eq_zero_or_pos (s.nx p-1) with h0 | h0
   ·exact h0
   ·have:=hA.pos h0 (by omega);omega
  ·intro h;rw [h];rfl
 ·show ((s.log.drop (s.nx p-1)).take c.batch).length≤16
  rw [List.length_take];omega
 ·exact absurd h (by show ¬ ((5:Nat)=6);omega)
 ·show 1≤s.id∧s.id≤n;rw [hid];exact hi
 ·exact absurd h (by show ¬ ((5:Nat)=3);omega)
 ·exact absurd h (by show ¬ ((5:Nat)=4);omega)
 ·show g.lid s.term=s.id∧s.nx p-1+((s.log.drop (s.nx p-1)).take c.batch).length≤(g.llog s.term).length∧tmL s.log (s.nx p-1)=tmL (g.llog s.term) (s.nx p-1)∧(s.log.drop (s.nx p-1)).take c.batch=((g.llog s.term).drop (s.nx p-1)).take ((s.log.drop (s.nx p-1)).take c.batch).length∧CommOK n g s.term (g.llog s.term) s.commit
  rw [b,hid]
  refine ⟨a,by omega,rfl,?_,hcm⟩
  rw [List.length_take,←List.take_take,List.take_length]
 ·exact absurd h (by show ¬ ((5:Nat)=6);omega)
 ·exact absurd h (by show ¬ ((5:Nat)=1);omega)
 ·exact absurd h (by show ¬ ((5:Nat)=2);omega)
theorem Good.apps (hG:Good n nd i net g0 s ms) (hb:c.batch≤16) (hn:c.n=n) (hr:s.role=4):Good n nd i net g0 s (ms++apps c s):=by
 refine hG.send _ fun g hI m hm=>?_
 obtain ⟨p,hp,rfl⟩:=List.mem_map.1 hm
 exact app_ok hb hn hI hG.1 hr hp
end
section
variable {n:Nat} {nd:Nat→Nd} {g g0:Gh} {net:List Msg} {i:Nat} {s s':Nd} {ms ms':List Msg} {c:Cfg} {draw:Int}
theorem countFrom_cases (c:Cfg) (s:Nd) (k:Nat):countFrom c s k=s.commit∨∃ j,s.commit<j∧j≤k∧s.tm j=s.term∧maj c (have_ c s j)=true∧countFrom c s k=j:=by
 induction k with
 | zero=>exact .inl rfl
 | succ k ih =>
  unfold countFrom
  split
  ·exact .inl rfl
  ·rename_i h1
   split
   ·rename_i h2
    split
    ·rename_i h3
     exact .inr ⟨k+1,by omega,Nat.le_refl _,h2,h3,rfl⟩
    ·rcases ih with h | ⟨j,a,b,d⟩
     ·exact .inl h
     ·exact .inr ⟨j,a,by omega,d⟩
   ·exact .inl rfl
theorem have_maj (hn:c.n=n) (hi:1≤i∧i≤n) {P:Nat→Bool} (h:maj c (1+((others c i).filter P).length)=true):Maj n (i :: (others c i).filter P):=by
 refine ⟨List.nodup_cons.2 ⟨fun hm=>?_,(nodup_others c i).filter _⟩,fun q hq=>?_,?_⟩
 ·exact (mem_others.1 (List.mem_filter.1 hm).1).2 rfl
 ·rcases List.mem_cons.1 hq with rfl | hq
  ·exact hi
  ·rw [←hn];exact (mem_others.1 (List.mem_filter.1 hq).1).1
 ·have:=of_decide_eq_true h
  rw [List.length_cons];omega
theorem Good.count (hG:Good n nd i net g0 s ms) (hn:c.n=n) (hr:s.role=4):Good n nd i net g0 (count c s) ms:=by
 have hi:=hG.1
 obtain ⟨_,g1,hI1,_⟩:=hG
 refine Good.node ⟨hi,g1,hI1,by assumption⟩ rfl (Nat.le_refl _) rfl (by rw [if_neg (show ¬ s.term<(Rf.count c s).term from Nat.lt_irrefl _)];rfl) ?_ ?_ ?_ ?_ ?_
 ·exact fun _=>⟨hr,rfl,(Good.nodeFacts hI1).2.2.1 hr⟩
 ·exact fun g hI _=>((Good.nodeFacts hI).2.1 hr).2.2.2
 ·intro h3;exact absurd (show s.role=3 from h3) (by omega)
 ·intro g hI h3;exact absurd (show s.role=3 from h3) (by omega)
 ·intro g hI
  obtain ⟨hid,hl,_,_,hcm,_⟩:=Good.nodeFacts hI
  obtain ⟨a,b,d,f⟩:=hl hr
  rcases countFrom_cases c s s.fin with h | ⟨j,h1,h2,h3,h4,h5⟩
  ·show CommOK n g s.term s.log (countFrom c s s.fin)
   rw [h];exact hcm
  ·show CommOK n g s.term s.log (countFrom c s s.fin)
   rw [h5]
   refine ⟨h2,.inr ⟨s.term,j,Nat.le_refl _,Nat.le_refl _,⟨by omega,by rw [b];exact h3,_,have_maj hn hi (P:=fun p=>decide (j≤s.mt p)) ?_,fun q hq=>?_⟩,by rw [b]⟩⟩
   ·unfold have_ at h4;rw [hid] at h4;exact h4
   ·rcases List.mem_cons.1 hq with rfl | hq
    ·rw [d];exact h2
    ·have:=List.mem_filter.1 hq
     exact Nat.le_trans (of_decide_eq_true this.2) (f q (mem_others.1 this.1).2)
theorem Good.leadBy (hG:Good n nd i net g0 s ms) (hr:s.role=3) (hm:n<2*s.gr.length) (L:List Ent) (hpre:s.log <+: L) (hnew:∀ k,s.log.length<k→k≤L.length→tmL L k=s.term)
  (hid:s'.id=s.id) (hterm:s'.term=s.term) (hvote:s'.vote=s.vote) (hlog:s'.log=L) (hcm:s'.commit=s.commit) (hrole:s'.role=4) (hmt:∀ p,s'.mt p=0) (hnx:∀ p,1≤s'.nx p∧s'.nx p≤L.length+1):Good n nd i net g0 s' ms:=by
 have hi:=hG.1
 refine hG.to fun g hI=>?_
 obtain ⟨hid',_,_,hcd,_,hA,hT,hvN⟩:=Good.nodeFacts hI
 obtain ⟨hv,hcl,hnd,hig,hgr⟩:=hcd hr
 have hcandT:=hI.candT i
 rw [setN_at] at hcandT
 have hcT:=hcandT hr
 have hMaj:Maj n s.gr:=⟨hnd,fun q hq=>(hgr q hq).1,hm⟩
 have hlid:g.lid s.term=0:=by
  refine Classical.byContradiction fun hne=>?_
  obtain ⟨R,hR,hq⟩:=(hI.llQ s.term hne).2
  obtain ⟨x,hx1,hx2⟩:=hMaj.meet hR
  have:=hq x hx2
  rw [(hgr x hx1).2] at this
  exact hcT this.symm
 have hself:g.voted s.term i=i:=by rw [hvN,hv]
 have hvs:=hI.votes s.term i i (by omega) hself
 rw [hcl] at hvs
 have hT1:1≤s.term:=by have:=hvs.2.2.2.1 0;omega
 have hcomp:∀ t k,t<s.term→1≤k→tmL (g.llog t) k=t→Choos n (setN nd i s) g t k→k≤L.length∧L.take k=(g.llog t).take k:=fun t k ht h1 hk hch=>by
  obtain ⟨Q,hQ,hq⟩:=id hch
  obtain ⟨x,hx1,hx2⟩:=hQ.meet hMaj
  have hxv:=(hgr x hx2).2
  have hxT:s.term≤(setN nd i s x).term:=by
   refine Classical.byContradiction fun hn=>?_
   have:=(hI.voteF x s.term (by omega)).1
   omega
  have hack:k≤g.ack t x:=(hq x hx1).elim id fun y=>by omega
  obtain ⟨a,b⟩:=hI.vcomp t s.term x k ht (by omega) h1 hack hk hch
  have hvx:=hI.votes s.term x i (by omega) hxv
  rw [hcl] at hvx
  obtain ⟨u,v⟩:=elect hI.llT (t':=s.term) (fun v hv1 hv2 hv3=>hI.comp t v k hv1 hv3 h1 hk hch) hvx.2.2.1 hvx.2.2.2.1 hvx.2.2.2.2.1 hvx.2.1 h1 hk a b
  exact ⟨Nat.le_trans u hpre.length_le,by rw [take_pre hpre u];exact v⟩
 have hat:setN nd i s i=s:=setN_at ..
 refine ⟨g.grow s.term i L,?_,?_⟩
 ·have:=hI.grow i s' L hi.1 hi.2 (by rw [hid,hid']) (by rw [hat];exact hterm) hlog (by rw [hat];exact hvote) (by rw [hat];exact hcm) hrole (by rw [hat];exact .inl hlid) (by rw [hat,(hI.llN _ hlid).1];exact List.nil_prefix) (by rw [hat];exact hpre) (by rw [hat];exact hnew) (by rw [hat];exact hT1) (by rw [hat];exact ⟨hself,_,hMaj,fun q hq=>(hgr q hq).2⟩) (by rw [hat];exact hcomp) (by rw [hat];exact fun p _=>by rw [hmt p];exact ⟨Nat.zero_le _,(hnx p).1,(hnx p).2⟩)
  rw [hat] at this
  exact this
 ·refine ⟨fun q=>?_,fun t q=>?_,fun t q hne=>?_,fun t k hk=>?_,fun t ht=>?_,fun _ _ _=>rfl,fun _ _ _ _=>rfl,fun _ _ _=>rfl⟩
  ·rw [setN_setN]
   by_cases hq:q=i
   ·subst hq;rw [setN_at,setN_at,hterm];exact Nat.le_refl _
   ·rw [setN_ne _ _ hq,setN_ne _ _ hq];exact Nat.le_refl _
  ·show g.ack t q≤upd2 g.ack s.term i L.length t q
   by_cases hx:t=s.term∧q=i
   ·obtain ⟨rfl,rfl⟩:=hx
    rw [upd2_at,(hI.llN _ hlid).2];exact Nat.zero_le _
   ·rw [upd2_ne _ _ hx];exact Nat.le_refl _
  ·by_cases hx:t=s.term∧q=i
   ·obtain ⟨rfl,rfl⟩:=hx
    rw [setN_at];exact Nat.le_refl _
   ·exact absurd (upd2_ne _ _ hx) hne
  ·show k≤(upd1 g.llog s.term L t).length∧(upd1 g.llog s.term L t).take k=_
   by_cases hx:t=s.term
   ·subst hx
    rw [(hI.llN _ hlid).1] at hk
    have:k=0:=by simpa using hk
    subst this
    exact ⟨Nat.zero_le _,by simp⟩
   ·rw [upd1_ne _ _ hx];exact ⟨hk,rfl⟩
  ·show upd1 g.lid s.term i t=_
   rw [upd1_ne _ _ (fun hx=>ht (by rw [hx];exact hlid))]
theorem Good.lead (hG:Good n nd i net g0 s ms) (hb:c.batch≤16) (hn:c.n=n) (hr:s.role=3) (hm:maj c s.gr.length=true):Good n nd i net g0 (lead c s).1 (ms++(lead c s).2):=by
 have hm':n<2*s.gr.length:=by rw [←hn];exact of_decide_eq_true hm
 unfold Rf.lead
 simp only
 by_cases hf:Nd.fin { s with role:=4,leader:=s.id,elapsed:=0,beat:=0,mt:=fun _=>0,nx:=fun _=>s.fin+1,hd:=[] }<1099511627776
 ·rw [if_pos hf]
  refine Good.apps (Good.count (hG.leadBy hr hm' (s.log++[⟨s.term,[]⟩]) (List.prefix_append ..) (fun k h1 h2=>?_) rfl rfl rfl rfl rfl rfl (fun _=>rfl) (fun p=>?_)) hn rfl) hb hn rfl
  ·have hk:k=s.log.length+1:=by rw [List.length_append] at h2;simp at h2;omega
   subst hk
   simp [tmL]
  ·show 1≤s.log.length+1∧s.log.length+1≤_
   rw [List.length_append];simp
 ·rw [if_neg hf]
  refine Good.apps (Good.count (hG.leadBy hr hm' s.log (List.prefix_refl _) (fun k h1 h2=>by omega) rfl rfl rfl rfl rfl rfl (fun _=>rfl) (fun p=>?_)) hn rfl) hb hn rfl
  show 1≤s.log.length+1∧s.log.length+1≤_
  omega
end
end Go.Proofs.YtocogcgnahbpkaaGreat.Rf
