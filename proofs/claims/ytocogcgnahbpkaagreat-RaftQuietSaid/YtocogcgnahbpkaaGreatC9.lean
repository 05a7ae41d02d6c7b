import Derived.Test.YtocogcgnahbpkaaGreatC8
namespace Go.Proofs.YtocogcgnahbpkaaGreat.Rf
structure Trail (c:Cfg) (d:Nat→Int) (f N:Nat) (ws:Nat→Wd):Prop where
 hc:CfgOK c
 n2:2≤c.n
 fr:1≤f∧f≤c.n
 df:rnd c (d f)=c.least
 dn:∀ p,p≠f→rnd c (d p)=c.most
 soft:∀ k,k≤N→∀ p,Soft c ((ws k).nd p)
 rng:∀ k,k≤N→∀ p,((ws k).nd p).role≠1→1≤p∧p≤c.n
 still:∀ k,k<N→∃ g g',Still c d f (ws k) (ws (k+1)) g g'
 idle:∀ k,k<N→(∀ p,((ws k).nd p).role≠4)→∀ M,IsMax c (ws k).nd M→∃ A,Idle c d f M (ws k) (ws (k+1)) A
section
variable {c:Cfg} {d:Nat→Int} {f N M:Nat} {ws:Nat→Wd}
theorem Trail.beat (h:Trail c d f N ws):∀ k,k≤N→∀ p,1≤p→p≤c.n→((ws k).nd p).role=4→k≤((ws k).nd p).beat∧(1≤k→((ws k).nd p).beat<c.beat):=by
 intro k
 induction k with
 | zero=>intro _ p _ _ _;exact ⟨Nat.zero_le _,fun h=>by omega⟩
 | succ k ih =>
  intro hk p h1 h2 hr
  obtain ⟨g,g',hS⟩:=h.still k (by omega)
  have hb:=hS.beat p h1 h2 hr
  have:=(ih (by omega) p h1 h2 (hS.com.led p hr).1).1
  exact ⟨by omega,fun _=>by omega⟩
theorem Trail.nl (h:Trail c d f N ws) {k:Nat} (hb:c.beat≤k) (hk:k≤N) (p:Nat):((ws k).nd p).role≠4:=fun hr=>by
 obtain ⟨h1,h2⟩:=h.rng k hk p (by omega)
 have:=h.beat k hk p h1 h2 hr
 have hb1:=h.hc.beat.1
 have:=this.2 (by omega)
 omega
theorem Trail.timer (h:Trail c d f N ws):∀ k,k≤N→((ws k).nd f).role≠4→((ws k).nd f).timeout=c.least∨k≤((ws k).nd f).elapsed:=by
 intro k
 induction k with
 | zero=>intro _ _;exact .inr (Nat.zero_le _)
 | succ k ih =>
  intro hk hr
  obtain ⟨g,g',hS⟩:=h.still k (by omega)
  rcases hS.com.time f h.fr.1 h.fr.2 hr with ⟨_,y⟩ | ⟨y,z,u⟩
  ·exact .inl (by rw [y,h.df])
  ·rcases ih (by omega) u with v | v
   ·exact .inl (by rw [z];exact v)
   ·exact .inr (by omega)
theorem Trail.heard (h:Trail c d f N ws):∀ k,c.beat≤k→k≤N→∀ p,1≤p→p≤c.n→((ws k).nd p).leader≠0→k≤c.beat+((ws k).nd p).elapsed:=by
 intro k hb
 induction k with
 | zero=>intro _ p _ _ _;omega
 | succ k ih =>
  intro hk p h1 h2 hl
  by_cases hkb:c.beat=k+1
  ·omega
  ·obtain ⟨M,hM⟩:=exists_max (c:=c) (by have:=h.n2;omega) (ws k).nd
   obtain ⟨A,hA⟩:=h.idle k (by omega) (h.nl (by omega) (by omega)) M hM
   rcases hA.s p h1 h2 with ⟨_,a,_,_,b⟩ | ⟨a,_⟩
   ·have:=ih (by omega) (by omega) p h1 h2 (by rw [←b];exact hl)
    omega
   ·exact absurd a.2.2 hl
theorem Trail.free (h:Trail c d f N ws) {k:Nat} (hk0:c.beat+c.least≤k) (hk:k≤N) {p:Nat} (h1:1≤p) (h2:p≤c.n):unprot c (ws k).nd p:=by
 by_cases hl:((ws k).nd p).leader=0
 ·exact .inl hl
 ·have:=h.heard k (by omega) hk p h1 h2 hl
  exact .inr (by omega)
def AllReset (c:Cfg) (d:Nat→Int) (j M:Nat) (w:Wd):Prop:=∀ p,1≤p→p≤c.n→(w.nd p).elapsed=j∧(w.nd p).timeout=rnd c (d p)∧(w.nd p).leader=0∧(w.nd p).term=M
theorem AllReset.max (h:Trail c d f N ws) {j M:Nat} {w:Wd} (ha:AllReset c d j M w):IsMax c w.nd M:=⟨fun p a b=>Nat.le_of_eq (ha p a b).2.2.2,f,h.fr,(ha f h.fr.1 h.fr.2).2.2.2⟩
theorem Trail.reset_go (h:Trail c d f N ws) {k j M:Nat} (hb:c.beat≤k) (hk:k<N) (hj:j+1<c.least) (ha:AllReset c d j M (ws k)):AllReset c d (j+1) M (ws (k+1)):=by
 obtain ⟨A,hA⟩:=h.idle k hk (h.nl hb (by omega)) M (ha.max h)
 have hno:∀ p,¬ bg c (ws k).nd p:=fun p hp=>by
  have a:=ha p hp.1.1 hp.1.2
  have:=hp.2.2
  rw [a.1,a.2.1] at this
  have:=(rnd_le h.hc (d p)).1
  omega
 intro p h1 h2
 obtain ⟨a,b,e,l⟩:=ha p h1 h2
 rcases hA.s p h1 h2 with ⟨_,q1,q2,q3,q4⟩ | ⟨_,q | ⟨_,T,hT,_⟩⟩
 ·exact ⟨by rw [q1,a],by rw [q2,b],by rw [q4,e],by rw [q3,l]⟩
 ·exact absurd q (hno p)
 ·obtain ⟨X,hX,_⟩:=(hA.ask T hT).1
  exact absurd hX (hno X)
theorem Trail.reset_no (h:Trail c d f N ws) {k M:Nat} (hb:c.beat≤k) (hk:k+c.least≤N) (ha:AllReset c d 0 M (ws k)):False:=by
 have hl:=h.hc.least
 have key:∀ j,j<c.least→AllReset c d j M (ws (k+j)):=by
  intro j
  induction j with
  | zero=>intro _;exact ha
  | succ j ih=>intro hj;exact h.reset_go (k:=k+j) (by omega) (by omega) hj (ih (by omega))
 have hlast:=key (c.least-1) (by omega)
 have hk':k+(c.least-1)<N:=by omega
 obtain ⟨A,hA⟩:=h.idle _ hk' (h.nl (by omega) (by omega)) M (hlast.max h)
 refine hA.no9 ⟨fun p=>⟨fun hp=>?_,fun hp=>?_⟩,fun p h1 h2=>(hlast p h1 h2).2.2.2,fun p h1 h2=>(hlast p h1 h2).2.2.1⟩
 ·refine Classical.byContradiction fun hne=>?_
  have a:=hlast p hp.1.1 hp.1.2
  have:=hp.2.2
  rw [a.1,a.2.1,h.dn p hne] at this
  have:=h.hc.most
  omega
 ·subst hp
  have a:=hlast p h.fr.1 h.fr.2
  refine ⟨h.fr,h.nl (by omega) (by omega) p,?_⟩
  rw [a.1,a.2.1,h.df]
  omega
theorem Trail.rise_reset (h:Trail c d f N ws) {k:Nat} {A:Nat→Prop} (hk0:c.beat+c.least≤k) (hk:k<N) (hM:IsMax c (ws k).nd M) (hA:Idle c d f M (ws k) (ws (k+1)) A) (hr:A (M+1)):AllReset c d 0 (M+1) (ws (k+1)):=by
 intro p h1 h2
 have h3:=(hA.ask _ hr).2 p h1 h2 (h.free hk0 (by omega) h1 h2)
 have h4:=hM.1 p h1 h2
 have h5:((ws (k+1)).nd p).term=M+1:=by rcases hA.cap p h1 h2 with y | y <;> omega
 rcases hA.s p h1 h2 with ⟨_,_,_,q,_⟩ | ⟨q,_⟩
 ·omega
 ·exact ⟨q.1,q.2.1,q.2.2,h5⟩
theorem Trail.flat (h:Trail c d f N ws) {k:Nat} {A:Nat→Prop} (hk0:c.beat+c.least≤k) (hk:k+1+c.least≤N) (hM:IsMax c (ws k).nd M) (hA:Idle c d f M (ws k) (ws (k+1)) A):¬ A (M+1)∧IsMax c (ws (k+1)).nd M∧¬ (bg c (ws k).nd f∧((ws k).nd f).term=M):=by
 have hno:¬ A (M+1):=fun hr=>h.reset_no (k:=k+1) (by omega) (by omega) (h.rise_reset hk0 (by omega) hM hA hr)
 refine ⟨hno,⟨fun p h1 h2=>(hA.cap p h1 h2).elim id fun y=>absurd y.2 hno,?_⟩,fun ⟨hb,ht⟩=>hno (hA.top hb ht fun q h1 h2=>h.free hk0 (by omega) h1 h2)⟩
 obtain ⟨p,hp,e⟩:=hM.2
 refine ⟨p,hp,?_⟩
 have:=hA.mono p
 rcases hA.cap p hp.1 hp.2 with y | y
 ·omega
 ·exact absurd y.2 hno
def AtTop (f M:Nat) (nd:Nat→Nd):Prop:=(nd f).term=M∧(nd f).leader=0
instance (f M:Nat) (nd:Nat→Nd):Decidable (AtTop f M nd):=by unfold AtTop;exact inferInstance
def Dn (c:Cfg) (f M:Nat) (nd:Nat→Nd):Nat :=
 if AtTop f M nd then ((nd f).timeout-(nd f).elapsed)+(if c.n / 2<below c nd M then c.least-1 else 0)
 else ((nd f).timeout-(nd f).elapsed)+(below c nd M-c.n / 2)*(c.least-1)+c.least
theorem Trail.down (h:Trail c d f N ws) {k:Nat} (hk0:c.beat+c.least≤k) (hk:k+1+c.least≤N) (hM:IsMax c (ws k).nd M):IsMax c (ws (k+1)).nd M∧Dn c f M (ws (k+1)).nd+1≤Dn c f M (ws k).nd:=by
 obtain ⟨A,hA⟩:=h.idle k (by omega) (h.nl (by omega) (by omega)) M hM
 obtain ⟨hno,hM',hnb⟩:=h.flat hk0 hk hM hA
 refine ⟨hM',?_⟩
 obtain ⟨z,hz,hzM⟩:=hM.2
 have hbl:below c (ws (k+1)).nd M≤below c (ws k).nd M:=below_le hA.mono
 have hel:=(h.soft k (by omega) f).el (h.nl (by omega) (by omega) f)
 have hel':=(h.soft (k+1) (by omega) f).el (hA.nl f)
 have hl:=h.hc.least
 have hfM:=hM.1 f h.fr.1 h.fr.2
 have hfM':=hM'.1 f h.fr.1 h.fr.2
 unfold Dn
 by_cases hb:bg c (ws k).nd f
 ·
  have hnt:¬ AtTop f M (ws k).nd:=fun ht=>hnb ⟨hb,ht.1⟩
  rw [if_neg hnt]
  rcases hA.s f h.fr.1 h.fr.2 with ⟨q,_⟩ | ⟨q,_⟩
  ·exact absurd hb q
  ·have h1:=hA.beg f z hb hz.1 hz.2
   have hat:AtTop f M (ws (k+1)).nd:=⟨by omega,q.2.2⟩
   rw [if_pos hat,q.1,q.2.1,h.df]
   split
   ·rename_i hlt
    have:c.least-1≤(below c (ws k).nd M-c.n / 2)*(c.least-1):=Nat.le_mul_of_pos_left _ (by omega)
    omega
   ·omega
 ·have hrem:((ws k).nd f).elapsed+1<((ws k).nd f).timeout:=Nat.lt_of_not_le fun hle=>hb ⟨h.fr,h.nl (by omega) (by omega) f,hle⟩
  rcases hA.s f h.fr.1 h.fr.2 with ⟨_,q1,q2,q3,q4⟩ | ⟨q,q' | ⟨_,T,hT,hT1,hT2⟩⟩
  ·
   have hmul:(below c (ws (k+1)).nd M-c.n / 2)*(c.least-1)≤(below c (ws k).nd M-c.n / 2)*(c.least-1):=Nat.mul_le_mul_right _ (by omega)
   by_cases ht:AtTop f M (ws k).nd
   ·have ht':AtTop f M (ws (k+1)).nd:=⟨by rw [q3];exact ht.1,by rw [q4];exact ht.2⟩
    rw [if_pos ht,if_pos ht',q1,q2]
    split
    ·rw [if_pos (by omega)];omega
    ·omega
   ·have ht':¬ AtTop f M (ws (k+1)).nd:=fun hh=>ht ⟨by rw [←q3];exact hh.1,by rw [←q4];exact hh.2⟩
    rw [if_neg ht,if_neg ht',q1,q2]
    omega
  ·exact absurd q' hb
  ·
   obtain ⟨⟨X,hX,hXT,Q,hQ,hq⟩,hall⟩:=hA.ask T hT
   have hTM:T≤M:=by omega
   have hmaj:=below_maj (M:=M) hQ fun q hq'=>Nat.lt_of_lt_of_le (hq q hq') hTM
   have hX':=hA.beg X z hX hz.1 hz.2
   have hlt:=below_lt (c:=c) (M:=M) hA.mono hX.1 (by omega) (by omega)
   by_cases ht:AtTop f M (ws k).nd
   ·have hTeq:T=M:=by have:=ht.1;omega
    have h0:below c (ws (k+1)).nd M=0:=below_zero fun p h1 h2=>by rw [←hTeq];exact hall p h1 h2 (h.free hk0 (by omega) h1 h2)
    have ht':AtTop f M (ws (k+1)).nd:=⟨by omega,q.2.2⟩
    rw [if_pos ht,if_pos ht',q.1,q.2.1,h.df,h0,if_pos hmaj,if_neg (by omega)]
    omega
   ·rw [if_neg ht]
    have hmul:(below c (ws (k+1)).nd M-c.n / 2)*(c.least-1)+(c.least-1)≤(below c (ws k).nd M-c.n / 2)*(c.least-1):=by
     rw [←Nat.succ_mul];exact Nat.mul_le_mul_right _ (by omega)
    by_cases ht':AtTop f M (ws (k+1)).nd
    ·rw [if_pos ht',q.1,q.2.1,h.df]
     split
     ·rename_i hlt2
      have:c.least-1≤(below c (ws (k+1)).nd M-c.n / 2)*(c.least-1):=Nat.le_mul_of_pos_left _ (by omega)
      omega
     ·omega
    ·rw [if_neg ht',q.1,q.2.1,h.df]
     omega
def Hk (c:Cfg) (f k M:Nat) (nd:Nat→Nd):Prop :=
 AtTop f M nd∨((nd f).leader=0∧below c nd M+2≤c.n)∨(((nd f).timeout=c.least∧k≤c.beat+(nd f).elapsed)∨k≤(nd f).elapsed)
theorem Trail.hist (h:Trail c d f N ws):∀ k,c.beat≤k→k≤N→∃ M,IsMax c (ws k).nd M∧Hk c f k M (ws k).nd:=by
 intro k hb
 induction k with
 | zero =>
  intro _
  obtain ⟨M,hM⟩:=exists_max (c:=c) (by have:=h.n2;omega) (ws 0).nd
  exact ⟨M,hM,.inr (.inr (.inr (Nat.zero_le _)))⟩
 | succ k ih =>
  intro hk
  by_cases hkb:c.beat=k+1
  ·obtain ⟨M,hM⟩:=exists_max (c:=c) (by have:=h.n2;omega) (ws (k+1)).nd
   refine ⟨M,hM,.inr (.inr ?_)⟩
   rcases h.timer (k+1) hk (h.nl (by omega) hk f) with y | y
   ·exact .inl ⟨y,by omega⟩
   ·exact .inr y
  ·obtain ⟨M,hM,hH⟩:=ih (by omega) (by omega)
   obtain ⟨A,hA⟩:=h.idle k (by omega) (h.nl (by omega) (by omega)) M hM
   obtain ⟨z,hz,hzM⟩:=hM.2
   have hfM:=hM.1 f h.fr.1 h.fr.2
   have bgfree:∀ p,bg c (ws k).nd p→unprot c (ws k).nd p:=fun p hp=>by
    have:=(h.soft k (by omega) p).time
    have:=hp.2.2
    exact .inr (by omega)
   by_cases hr:A (M+1)
   ·
    have hM':IsMax c (ws (k+1)).nd (M+1):=by
     obtain ⟨⟨X,hX,_⟩,hall⟩:=hA.ask _ hr
     refine ⟨fun p h1 h2=>by rcases hA.cap p h1 h2 with y | y <;> omega,X,hX.1,?_⟩
     have:=hall X hX.1.1 hX.1.2 (bgfree X hX)
     rcases hA.cap X hX.1.1 hX.1.2 with y | y <;> omega
    refine ⟨M+1,hM',?_⟩
    have hup:unprot c (ws k).nd f→((ws (k+1)).nd f).term=M+1:=fun hu=>by
     have:=(hA.ask _ hr).2 f h.fr.1 h.fr.2 hu
     have:=hM'.1 f h.fr.1 h.fr.2
     omega
    rcases hA.s f h.fr.1 h.fr.2 with ⟨_,q1,q2,q3,q4⟩ | ⟨q,q' | ⟨q',_⟩⟩
    ·rcases hH with y | y | y
     ·have:=hup (.inl y.2);omega
     ·have:=hup (.inl y.1);omega
     ·right;right
      rw [q1,q2]
      rcases y with y | y
      ·exact .inl ⟨y.1,by omega⟩
      ·exact .inr (by omega)
    ·exact .inl ⟨hup (bgfree f q'),q.2.2⟩
    ·exact .inl ⟨hup q',q.2.2⟩
   ·have hM':IsMax c (ws (k+1)).nd M:=by
     refine ⟨fun p h1 h2=>(hA.cap p h1 h2).elim id fun y=>absurd y.2 hr,z,hz,?_⟩
     have:=hA.mono z
     rcases hA.cap z hz.1 hz.2 with y | y
     ·omega
     ·exact absurd y.2 hr
    refine ⟨M,hM',?_⟩
    have hfM':=hM'.1 f h.fr.1 h.fr.2
    rcases hA.s f h.fr.1 h.fr.2 with ⟨_,q1,q2,q3,q4⟩ | ⟨q,q' | ⟨_,T,hT,hT1,hT2⟩⟩
    ·rcases hH with y | y | y
     ·exact .inl ⟨by rw [q3];exact y.1,by rw [q4];exact y.2⟩
     ·have:=below_le (c:=c) (M:=M) hA.mono
      exact .inr (.inl ⟨by rw [q4];exact y.1,by omega⟩)
     ·right;right
      rw [q1,q2]
      rcases y with y | y
      ·exact .inl ⟨y.1,by omega⟩
      ·exact .inr (by omega)
    ·have:=hA.beg f z q' hz.1 hz.2
     exact .inl ⟨by omega,q.2.2⟩
    ·obtain ⟨⟨X,hX,hXT,_⟩,_⟩:=hA.ask T hT
     have hX':=hA.beg X z hX hz.1 hz.2
     have hne:X≠z:=fun e=>by subst e;omega
     have:=below_n2 (c:=c) (nd:=(ws (k+1)).nd) (M:=M) hX.1 hz hne (by omega) (by have:=hA.mono z;omega)
     exact .inr (.inl ⟨q.2.2,this⟩)
theorem Trail.ends (h:Trail c d f N ws):N<5*c.most+5:=by
 refine Classical.byContradiction fun hN=>?_
 have hN:5*c.most+5≤N:=by omega
 have hl:=h.hc.least
 have hm:=h.hc.most
 have hb:=h.hc.beat
 have hn:=h.hc.n
 have hn2:=h.n2
 have hk0N:c.beat+c.least≤N:=by omega
 obtain ⟨M,hM,hH⟩:=h.hist (c.beat+c.least) (by omega) hk0N
 have hgo:∀ i,c.beat+c.least+i+c.least≤N→IsMax c (ws (c.beat+c.least+i)).nd M∧Dn c f M (ws (c.beat+c.least+i)).nd+i≤Dn c f M (ws (c.beat+c.least)).nd:=by
  intro i
  induction i with
  | zero=>intro _;exact ⟨hM,Nat.le_refl _⟩
  | succ i ih =>
   intro hi
   obtain ⟨a,b⟩:=ih (by omega)
   obtain ⟨a',b'⟩:=h.down (k:=c.beat+c.least+i) (by omega) (by omega) a
   have e:c.beat+c.least+(i+1)=c.beat+c.least+i+1:=by omega
   rw [e]
   exact ⟨a',by omega⟩
 have hnl:=h.nl (k:=c.beat+c.least) (by omega) hk0N f
 have hel:=(h.soft _ hk0N f).el hnl
 have htime:=(h.soft _ hk0N f).time
 have hrem:=h.timer _ hk0N hnl
 obtain ⟨z,hz,hzM⟩:=hM.2
 have hbn:=below_n (c:=c) (nd:=(ws (c.beat+c.least)).nd) (M:=M) hz (by omega)
 have hD:c.beat+c.least+Dn c f M (ws (c.beat+c.least)).nd+c.least≤N:=by
  by_cases ht:AtTop f M (ws (c.beat+c.least)).nd
  ·unfold Dn
   rw [if_pos ht]
   split <;> omega
  ·unfold Dn
   rw [if_neg ht]
   rcases hH with y | y | y
   ·exact absurd y ht
   ·have h1:below c (ws (c.beat+c.least)).nd M-c.n / 2≤1:=by omega
    have h2:=Nat.mul_le_mul_right (c.least-1) h1
    omega
   ·have h1:below c (ws (c.beat+c.least)).nd M-c.n / 2≤2:=by omega
    have h2:=Nat.mul_le_mul_right (c.least-1) h1
    rcases y with y | y
    ·omega
    ·omega
 obtain ⟨a,b⟩:=hgo _ (by omega)
 have hk':c.beat+c.least+Dn c f M (ws (c.beat+c.least)).nd≤N:=by omega
 have hel2:=(h.soft _ hk' f).el (h.nl (by omega) hk' f)
 have:1≤Dn c f M (ws (c.beat+c.least+Dn c f M (ws (c.beat+c.least)).nd)).nd:=by
  generalize c.beat+c.least+Dn c f M (ws (c.beat+c.least)).nd=k at hel2 ⊢
  unfold Dn
  split <;> omega
 omega
end
section
variable {n:Nat} {nd nd0:Nat→Nd} {g g' g0:Gh} {net net' r o:List Msg} {L T:Nat} {s s':Nd} {ms ms':List Msg} {c:Cfg} {draw:Int} {d:Nat→Int} {m x:Msg} {K:Nat} {w w':Wd} {lg:List Ent}
theorem countFrom_idem (c:Cfg) (s:Nd):∀ k C,C=countFrom c s k→countFrom c { s with commit:=C } k=C:=by
 intro k
 induction k with
 | zero=>intro C _;rfl
 | succ k ih =>
  intro C hC
  have htm:∀ i,Nd.tm { s with commit:=C } i=s.tm i:=fun _=>rfl
  have hhv:∀ i,have_ c { s with commit:=C } i=have_ c s i:=fun _=>rfl
  unfold countFrom at hC ⊢
  rw [htm,hhv]
  show (if k+1≤C then C else if s.tm (k+1)=s.term then if maj c (have_ c s (k+1))=true then k+1 else countFrom c { s with commit:=C } k else C)=C
  by_cases h0:k+1≤C
  ·rw [if_pos h0]
  ·rw [if_neg h0]
   by_cases h1:s.tm (k+1)=s.term
   ·rw [if_pos h1]
    by_cases h2:maj c (have_ c s (k+1))=true
    ·rw [if_pos h2]
     split at hC
     ·omega
     ·omega
    ·rw [if_neg h2]
     split at hC
     ·omega
     ·exact ih C hC
   ·rw [if_neg h1]
theorem merge_idx (es:List Ent):∀ (log:List Ent) (j:Nat),j≤log.length→j+es.length≤65536→(merge log j es).2=j+es.length:=by
 induction es with
 | nil=>intro log j _ _;rfl
 | cons e es ih =>
  intro log j hj h
  rw [List.length_cons] at h ⊢
  unfold merge
  split
  ·rename_i hc
   have hjl:j<log.length:=by
    refine Classical.byContradiction fun hn=>?_
    rw [List.getElem?_eq_none (by omega)] at hc
    simp at hc
   rw [ih log (j+1) hjl (by omega)];omega
  ·simp only
   rw [List.length_take,List.length_take,List.length_cons]
   omega
structure Rep (c:Cfg) (L T:Nat) (lg:List Ent) (bt et:Nat) (nd:Nat→Nd) (net:List Msg):Prop where
 Lr:(nd L).role=4∧(nd L).term=T∧(nd L).log=lg∧(nd L).beat=bt∧(nd L).elapsed=et
 pr:∀ p,1≤p→p≤c.n→p≠L→(nd p).role=1∧(nd p).term=T∧(nd p).leader=L
 msg:∀ m∈net,m.term=T∧((m.kind=5∧m.src=L∧m.idx+m.es.length≤lg.length∧(m.es=[]→lg.length≤m.idx))∨(m.kind=6∧m.dst=L))
 act:∀ p,1≤p→p≤c.n→p≠L→(nd L).mt p=lg.length∨(∃ m∈net,m.kind=5∧m.dst=p∧m.idx+1=(nd L).nx p)∨(∃ m∈net,m.kind=6∧m.src=p∧((m.rej=true∧m.idx+1=(nd L).nx p)∨(m.rej=false∧(nd L).mt p<m.idx)))
 cnt:countFrom c (nd L) lg.length=(nd L).commit
 el:∀ p,1≤p→p≤c.n→p≠L→(nd p).elapsed=0∨∃ m∈net,m.kind=5∧m.dst=p
 hd:∀ p,1≤p→p≤c.n→p≠L→p∈(nd L).hd∨(∃ m∈net,m.kind=5∧m.dst=p)∨(∃ m∈net,m.kind=6∧m.src=p)
theorem app_rep (hc:CfgOK c) (hlog:s.log=lg) (ht:s.term=T) (hid:s.id=L) {p:Nat} (hnx:s.nx p≤lg.length+1):(app c s p).term=T∧((app c s p).kind=5∧(app c s p).src=L∧(app c s p).idx+(app c s p).es.length≤lg.length∧((app c s p).es=[]→lg.length≤(app c s p).idx)):=by
 refine ⟨ht,rfl,hid,?_,fun h=>?_⟩
 ·show s.nx p-1+((s.log.drop (s.nx p-1)).take c.batch).length≤lg.length
  rw [List.length_take,List.length_drop,hlog];omega
 ·have h:(s.log.drop (s.nx p-1)).take c.batch=[]:=h
  have h2:=congrArg List.length h
  rw [List.length_take,List.length_drop,hlog] at h2
  have:=hc.batch
  simp at h2
  show lg.length≤s.nx p-1
  omega
theorem append_answers (hk:m.kind=5) (ht:s.term=m.term) (hcap:m.idx+m.es.length≤65536):∃ x,(message c draw m s).2=[x]∧x.kind=6∧x.src=s.id∧x.dst=m.src∧x.term=m.term∧(message c draw m s).1.elapsed=0 ∧
  ((x.rej=true∧x.idx=m.idx)∨(x.rej=false∧m.idx<x.idx)∨(x.rej=false∧x.idx=m.idx∧m.es=[])):=by
 have hkp:message c draw m s=append c draw m s:=by
  unfold message
  rw [if_neg (by omega),if_neg (by omega),if_neg (by omega)]
  unfold kinds
  simp only [hk]
 rw [hkp]
 have hterm:(follow c draw m.term m.src s).term=m.term:=by show max s.term m.term=_;omega
 unfold append
 simp only
 split
 ·rename_i h;exact ⟨_,rfl,rfl,rfl,rfl,hterm,rfl,.inr (.inl ⟨rfl,h⟩)⟩
 ·split
  ·exact ⟨_,rfl,rfl,rfl,rfl,hterm,rfl,.inl ⟨rfl,rfl⟩⟩
  ·split
   ·exact ⟨_,rfl,rfl,rfl,rfl,hterm,rfl,.inl ⟨rfl,rfl⟩⟩
   ·rename_i h1 h2 h3
    have hi:=merge_idx m.es (follow c draw m.term m.src s).log m.idx (Nat.le_of_not_lt h2) hcap
    refine ⟨_,rfl,rfl,rfl,rfl,hterm,rfl,?_⟩
    show _∨(false=false∧m.idx<(merge (follow c draw m.term m.src s).log m.idx m.es).2)∨(false=false∧(merge (follow c draw m.term m.src s).log m.idx m.es).2=m.idx∧m.es=[])
    rw [hi]
    by_cases he:m.es=[]
    ·right;right;exact ⟨rfl,by rw [he];rfl,he⟩
    ·have:=List.length_pos_iff.2 he
     right;left;exact ⟨rfl,by omega⟩
theorem reply_cases (hk:m.kind=6) (h4:s.role=4) (ht:m.term=s.term):(message c draw m s)=(if m.rej=true then
    (if m.idx+1=s.nx m.src then ({ s with hd:=put s.hd m.src,nx:=upd s.nx m.src (min (max (s.mt m.src) m.hint+1) (s.fin+1)) },[app c { s with hd:=put s.hd m.src,nx:=upd s.nx m.src (min (max (s.mt m.src) m.hint+1) (s.fin+1)) } m.src]) else ({ s with hd:=put s.hd m.src },[]))
    else if s.mt m.src<m.idx then
     (if s.commit<(count c { s with hd:=put s.hd m.src,mt:=upd s.mt m.src m.idx,nx:=upd s.nx m.src (m.idx+1) }).commit then (count c { s with hd:=put s.hd m.src,mt:=upd s.mt m.src m.idx,nx:=upd s.nx m.src (m.idx+1) },apps c (count c { s with hd:=put s.hd m.src,mt:=upd s.mt m.src m.idx,nx:=upd s.nx m.src (m.idx+1) }))
      else if (count c { s with hd:=put s.hd m.src,mt:=upd s.mt m.src m.idx,nx:=upd s.nx m.src (m.idx+1) }).nx m.src≤(count c { s with hd:=put s.hd m.src,mt:=upd s.mt m.src m.idx,nx:=upd s.nx m.src (m.idx+1) }).fin then (count c { s with hd:=put s.hd m.src,mt:=upd s.mt m.src m.idx,nx:=upd s.nx m.src (m.idx+1) },[app c (count c { s with hd:=put s.hd m.src,mt:=upd s.mt m.src m.idx,nx:=upd s.nx m.src (m.idx+1) }) m.src])
      else (count c { s with hd:=put s.hd m.src,mt:=upd s.mt m.src m.idx,nx:=upd s.nx m.src (m.idx+1) },[]))
    else ({ s with hd:=put s.hd m.src },[])):=by
 unfold message
 rw [if_neg (by omega),if_neg (by omega),if_neg (by omega)]
 unfold kinds
 simp only [hk]
 unfold appendReply
 rw [if_neg (by omega)]
 rfl
theorem countFrom_congr {s s':Nd} (h1:s'.commit=s.commit) (h2:s'.log=s.log) (h3:s'.term=s.term) (h4:s'.mt=s.mt) (h5:s'.id=s.id) (k:Nat):countFrom c s' k=countFrom c s k:=by
 have ht:∀ i,s'.tm i=s.tm i:=fun i=>by unfold Nd.tm;rw [h2]
 have hh:∀ i,have_ c s' i=have_ c s i:=fun i=>by unfold have_;rw [h4,h5]
 induction k with
 | zero=>exact h1
 | succ k ih =>
  unfold countFrom
  rw [ht,hh,h1,h3,ih]
theorem cnt_keep {s s':Nd} (h1:s'.commit=s.commit) (h2:s'.log=s.log) (h3:s'.term=s.term) (h4:s'.mt=s.mt) (h5:s'.id=s.id) {k:Nat} (h:countFrom c s k=s.commit):countFrom c s' k=s'.commit:=by
 rw [countFrom_congr h1 h2 h3 h4 h5,h1];exact h
theorem upd_at (f:Nat→Nat) (p v:Nat):upd f p v p=v:=by unfold upd;rw [if_pos rfl]
theorem upd_ne (f:Nat→Nat) {p q:Nat} (v:Nat) (h:q≠p):upd f p v q=f q:=by unfold upd;rw [if_neg h]
theorem Rep.step {bt et:Nat} (h:Rep c L T lg bt et nd (m :: r)) (hc:CfgOK c) (hI:Inv c.n nd (m :: r) g) (hlg:lg.length<65536):Rep c L T lg bt et (setN nd m.dst (message c (d m.dst) m (nd m.dst)).1) (r++(message c (d m.dst) m (nd m.dst)).2):=by
 have hM:=(hI.msgs m (by simp)).1
 obtain ⟨hL1,hL2,hL3,hL4,hL5⟩:=h.Lr
 obtain ⟨hmT,hmk⟩:=h.msg m (by simp)
 have hidL:=hI.ids L
 have hid:=hI.ids m.dst
 rcases hmk with ⟨k1,k2,k3,k4⟩ | ⟨k1,k2⟩
 ·
  have hne:m.dst≠L:=by rw [←k2];exact hM.form.ne.symm
  obtain ⟨p1,p2,p3⟩:=h.pr m.dst hM.rng.2.1 hM.rng.2.2 hne
  obtain ⟨x,e1,e2,e3,e4,e5,e6,e7⟩:=append_answers (c:=c) (draw:=d m.dst) (s:=nd m.dst) k1 (by rw [p2,hmT]) (by omega)
  have hap:=message_append (c:=c) (draw:=d m.dst) (s:=nd m.dst) k1 (by rw [p2,hmT];exact Nat.le_refl _)
  have hnL:=hI.nxt L hL1 m.dst hne
  rw [hid] at e3
  rw [e1]
  have hLs:setN nd m.dst (message c (d m.dst) m (nd m.dst)).1 L=nd L:=setN_ne _ _ fun e=>hne e.symm
  have hstay:∀ y:Msg,y∈m :: r→y≠m→y∈r++[x]:=fun y hy hn=>by
   rcases List.mem_cons.1 hy with rfl | hy
   ·exact absurd rfl hn
   ·exact List.mem_append_left _ hy
  refine ⟨by rw [hLs];exact h.Lr,fun p h1 h2 h3=>?_,fun y hy=>?_,fun p h1 h2 h3=>?_,by rw [hLs];exact h.cnt,fun p h1 h2 h3=>?_,fun p h1 h2 h3=>?_⟩
  ·by_cases hp:p=m.dst
   ·subst hp;rw [setN_at];exact ⟨hap.1,by rw [hap.2.2,hmT],by rw [hap.2.1,k2]⟩
   ·rw [setN_ne _ _ hp];exact h.pr p h1 h2 h3
  ·rcases List.mem_append.1 hy with z | z
   ·exact h.msg y (by simp [z])
   ·obtain rfl:=List.mem_singleton.1 z
    exact ⟨by rw [e5,hmT],.inr ⟨e2,by rw [e4,k2]⟩⟩
  ·rw [hLs]
   rcases h.act p h1 h2 h3 with y | ⟨y,hy,y1,y2,y3⟩ | ⟨y,hy,y1,y2,y3⟩
   ·exact .inl y
   ·by_cases hym:y=m
    ·subst hym
     subst y2
     rcases e7 with ⟨u1,u2⟩ | ⟨u1,u2⟩ | ⟨u1,u2,u3⟩
     ·exact .inr (.inr ⟨x,by simp,e2,e3,.inl ⟨u1,by rw [u2];exact y3⟩⟩)
     ·exact .inr (.inr ⟨x,by simp,e2,e3,.inr ⟨u1,by omega⟩⟩)
     ·have:=k4 u3
      rw [hL3] at hnL
      by_cases hmt:(nd L).mt y.dst=lg.length
      ·exact .inl hmt
      ·exact .inr (.inr ⟨x,by simp,e2,e3,.inr ⟨u1,by omega⟩⟩)
    ·exact .inr (.inl ⟨y,hstay y hy hym,y1,y2,y3⟩)
   ·exact .inr (.inr ⟨y,hstay y hy (fun e=>by subst e;omega),y1,y2,y3⟩)
  ·by_cases hp:p=m.dst
   ·subst hp;rw [setN_at];exact .inl e6
   ·rw [setN_ne _ _ hp]
    rcases h.el p h1 h2 h3 with y | ⟨y,hy,y1,y2⟩
    ·exact .inl y
    ·exact .inr ⟨y,hstay y hy (fun e=>hp (by rw [←y2,e])),y1,y2⟩
  ·rw [hLs]
   rcases h.hd p h1 h2 h3 with y | ⟨y,hy,y1,y2⟩ | ⟨y,hy,y1,y2⟩
   ·exact .inl y
   ·by_cases hym:y=m
    ·subst hym
     exact .inr (.inr ⟨x,by simp,e2,by rw [e3];exact y2⟩)
    ·exact .inr (.inl ⟨y,hstay y hy hym,y1,y2⟩)
   ·exact .inr (.inr ⟨y,hstay y hy (fun e=>by subst e;omega),y1,y2⟩)
 ·
  have hne:m.src≠L:=by rw [←k2];exact hM.form.ne
  have hnL:=hI.nxt L hL1 m.src hne
  have hfin:(nd L).fin=lg.length:=by unfold Nd.fin;rw [hL3]
  have hrc:=reply_cases (c:=c) (draw:=d m.dst) (s:=nd L) k1 hL1 (by rw [hL2,hmT])
  have hidx:m.rej=false→m.idx≤lg.length:=fun hj=>by
   have:=hI.right6 (m:=m) (by simp) k1 (by rw [k2,hL2,hmT]) (by rw [k2];exact hL1) hj
   rw [k2,hfin] at this
   exact this
  rw [k2] at hrc ⊢
  have keep:∀ (s':Nd) (out:List Msg),(message c (d L) m (nd L))=(s',out)→(s'.role=4∧s'.term=T∧s'.log=lg∧s'.beat=bt∧s'.elapsed=et)→(∀ p,p∈(nd L).hd∨p=m.src→p∈s'.hd) →
    (∀ p,p≠m.src→s'.mt p=(nd L).mt p∧s'.nx p=(nd L).nx p)→(∀ y∈out,y.term=T∧(y.kind=5∧y.src=L∧y.idx+y.es.length≤lg.length∧(y.es=[]→lg.length≤y.idx))) →
    (s'.mt m.src=lg.length∨(∃ y∈out,y.kind=5∧y.dst=m.src∧y.idx+1=s'.nx m.src)∨(s'.mt m.src=(nd L).mt m.src∧s'.nx m.src=(nd L).nx m.src∧¬ ((m.rej=true∧m.idx+1=(nd L).nx m.src)∨(m.rej=false∧(nd L).mt m.src<m.idx)))) →
    countFrom c s' lg.length=s'.commit→Rep c L T lg bt et (setN nd L (message c (d L) m (nd L)).1) (r++(message c (d L) m (nd L)).2):=by
   intro s' out e0 e1 e2 e3 e4 e5 e6
   rw [e0]
   simp only
   have hstay:∀ y:Msg,y∈m :: r→y≠m→y∈r++out:=fun y hy hn=>by
    rcases List.mem_cons.1 hy with rfl | hy
    ·exact absurd rfl hn
    ·exact List.mem_append_left _ hy
   refine ⟨by rw [setN_at];exact e1,fun p h1 h2 h3=>by rw [setN_ne _ _ h3];exact h.pr p h1 h2 h3,fun y hy=>?_,fun p h1 h2 h3=>?_,by rw [setN_at];exact e6,fun p h1 h2 h3=>?_,fun p h1 h2 h3=>?_⟩
   ·rcases List.mem_append.1 hy with z | z
    ·exact h.msg y (by simp [z])
    ·exact ⟨(e4 y z).1,.inl (e4 y z).2⟩
   ·rw [setN_at]
    by_cases hp:p=m.src
    ·subst hp
     rcases e5 with y | ⟨y,hy,y1⟩ | ⟨y1,y2,y3⟩
     ·exact .inl y
     ·exact .inr (.inl ⟨y,List.mem_append_right _ hy,y1⟩)
     ·rw [y1,y2]
      rcases h.act _ h1 h2 h3 with z | ⟨z,hz,z1,z2⟩ | ⟨z,hz,z1,z2,z3⟩
      ·exact .inl z
      ·exact .inr (.inl ⟨z,hstay z hz (fun e=>by subst e;omega),z1,z2⟩)
      ·exact .inr (.inr ⟨z,hstay z hz (fun e=>by subst e;exact y3 z3),z1,z2,z3⟩)
    ·rw [(e3 p hp).1,(e3 p hp).2]
     rcases h.act _ h1 h2 h3 with z | ⟨z,hz,z1,z2⟩ | ⟨z,hz,z1,z2,z3⟩
     ·exact .inl z
     ·exact .inr (.inl ⟨z,hstay z hz (fun e=>by subst e;omega),z1,z2⟩)
     ·exact .inr (.inr ⟨z,hstay z hz (fun e=>hp (by rw [←z2,e])),z1,z2,z3⟩)
   ·rw [setN_ne _ _ h3]
    rcases h.el p h1 h2 h3 with y | ⟨y,hy,y1,y2⟩
    ·exact .inl y
    ·exact .inr ⟨y,hstay y hy (fun e=>by subst e;omega),y1,y2⟩
   ·rw [setN_at]
    by_cases hp:p=m.src
    ·exact .inl (e2 p (.inr hp))
    ·rcases h.hd p h1 h2 h3 with y | ⟨y,hy,y1,y2⟩ | ⟨y,hy,y1,y2⟩
     ·exact .inl (e2 p (.inl y))
     ·exact .inr (.inl ⟨y,hstay y hy (fun e=>by subst e;omega),y1,y2⟩)
     ·exact .inr (.inr ⟨y,hstay y hy (fun e=>hp (by rw [←y2,e])),y1,y2⟩)
  have hput:∀ p,p∈(nd L).hd∨p=m.src→p∈put (nd L).hd m.src:=fun p hp=>mem_put.2 hp
  by_cases hj:m.rej=true
  ·rw [if_pos hj] at hrc
   by_cases hx:m.idx+1=(nd L).nx m.src
   ·rw [if_pos hx] at hrc
    have hnx':upd (nd L).nx m.src (min (max ((nd L).mt m.src) m.hint+1) ((nd L).fin+1)) m.src≤lg.length+1:=by rw [upd_at,hfin];exact Nat.min_le_right ..
    refine keep _ _ hrc ⟨hL1,hL2,hL3,hL4,hL5⟩ hput (fun p hp=>⟨rfl,upd_ne _ _ hp⟩) (fun y hy=>?_) (.inr (.inl ⟨_,List.mem_singleton.2 rfl,rfl,rfl,?_⟩)) ?_
    ·obtain rfl:=List.mem_singleton.1 hy
     exact app_rep (s:={ (nd L) with hd:=put (nd L).hd m.src,nx:=upd (nd L).nx m.src (min (max ((nd L).mt m.src) m.hint+1) ((nd L).fin+1)) }) hc hL3 hL2 hidL hnx'
    ·show upd (nd L).nx m.src _ m.src-1+1=upd (nd L).nx m.src _ m.src
     rw [upd_at,hfin]
     omega
    ·exact by refine cnt_keep (s:=nd L) ?_ ?_ ?_ ?_ ?_ h.cnt <;> rfl
   ·rw [if_neg hx] at hrc
    exact keep _ _ hrc ⟨hL1,hL2,hL3,hL4,hL5⟩ hput (fun p hp=>⟨rfl,rfl⟩) (fun y hy=>absurd hy (by simp)) (.inr (.inr ⟨rfl,rfl,fun hh=>by rcases hh with y | y;exact hx y.2;rw [hj] at y;exact absurd y.1 (by simp)⟩)) (by refine cnt_keep (s:=nd L) ?_ ?_ ?_ ?_ ?_ h.cnt <;> rfl)
  ·rw [if_neg hj] at hrc
   have hj':m.rej=false:=by simpa using hj
   by_cases hx:(nd L).mt m.src<m.idx
   ·rw [if_pos hx] at hrc
    generalize hs2:({ (nd L) with hd:=put (nd L).hd m.src,mt:=upd (nd L).mt m.src m.idx,nx:=upd (nd L).nx m.src (m.idx+1) }:Nd)=s0 at hrc
    generalize hs3:count c s0=s2 at hrc
    have e1:s2.id=L:=by rw [←hs3,←hs2];exact hidL
    have e2:s2.log=lg:=by rw [←hs3,←hs2];exact hL3
    have e3:s2.role=4∧s2.term=T∧s2.log=lg∧s2.beat=bt∧s2.elapsed=et:=by rw [←hs3,←hs2];exact ⟨hL1,hL2,hL3,hL4,hL5⟩
    have e4:∀ p,p≠m.src→s2.mt p=(nd L).mt p∧s2.nx p=(nd L).nx p:=fun p hp=>by
     rw [←hs3,←hs2];exact ⟨upd_ne _ _ hp,upd_ne _ _ hp⟩
    have e5:s2.mt m.src=m.idx∧s2.nx m.src=m.idx+1:=by rw [←hs3,←hs2];exact ⟨upd_at ..,upd_at ..⟩
    have e6:∀ p,p∈(nd L).hd∨p=m.src→p∈s2.hd:=fun p hp=>by rw [←hs3,←hs2];exact hput p hp
    have e7:countFrom c s2 lg.length=s2.commit:=by
     have h1:s0.fin=lg.length:=by rw [←hs2];exact hfin
     have:=countFrom_idem c s0 s0.fin _ rfl
     rw [←hs3]
     rw [h1] at this
     show countFrom c { s0 with commit:=countFrom c s0 s0.fin } lg.length=countFrom c s0 s0.fin
     rw [h1];exact this
    have e8:s2.fin=lg.length:=by unfold Nd.fin;rw [e2]
    have hnx:∀ p,p≠L→s2.nx p≤lg.length+1:=fun p hp=>by
     by_cases hps:p=m.src
     ·rw [hps,e5.2];have:=hidx hj';omega
     ·rw [(e4 p hps).2]
      have:=(hI.nxt L hL1 p hp).2
      rw [hL3] at this
      exact this
    have hnx1:s2.nx m.src-1+1=s2.nx m.src:=by rw [e5.2];rfl
    split at hrc
    ·refine keep _ _ hrc e3 e6 e4 (fun y hy=>?_) (.inr (.inl ⟨app c s2 m.src,List.mem_map.2 ⟨m.src,mem_others.2 ⟨hM.rng.1,by rw [e1];exact hne⟩,rfl⟩,rfl,rfl,hnx1⟩)) e7
     obtain ⟨p,hp,rfl⟩:=List.mem_map.1 hy
     exact app_rep hc e2 e3.2.1 e1 (hnx p (by have:=(mem_others.1 hp).2;rw [e1] at this;exact this))
    ·split at hrc
     ·refine keep _ _ hrc e3 e6 e4 (fun y hy=>?_) (.inr (.inl ⟨app c s2 m.src,List.mem_singleton.2 rfl,rfl,rfl,hnx1⟩)) e7
      obtain rfl:=List.mem_singleton.1 hy
      exact app_rep hc e2 e3.2.1 e1 (hnx _ hne)
     ·rename_i hgt
      refine keep _ _ hrc e3 e6 e4 (fun y hy=>absurd hy (by simp)) (.inl ?_) e7
      rw [e5.1]
      rw [e5.2,e8] at hgt
      have:=hidx hj'
      omega
   ·rw [if_neg hx] at hrc
    exact keep _ _ hrc ⟨hL1,hL2,hL3,hL4,hL5⟩ hput (fun p hp=>⟨rfl,rfl⟩) (fun y hy=>absurd hy (by simp)) (.inr (.inr ⟨rfl,rfl,fun hh=>by rcases hh with y | y;exact hj y.1;exact hx y.2⟩)) (by refine cnt_keep (s:=nd L) ?_ ?_ ?_ ?_ ?_ h.cnt <;> rfl)
end
end Go.Proofs.YtocogcgnahbpkaaGreat.Rf
