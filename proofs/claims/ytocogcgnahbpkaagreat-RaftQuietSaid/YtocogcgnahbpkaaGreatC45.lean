import Derived.ProofKit
import Derived.SizedLaws
import Derived.Deep.Matrix
import Derived.Test.YtocogcgnahbpkaaGreatC11
import Derived.Test.YtocogcgnahbpkaaGreatC12
import Derived.Test.YtocogcgnahbpkaaGreatC29
import Derived.Test.YtocogcgnahbpkaaGreatC43
import Derived.Test.YtocogcgnahbpkaaGreatC44
namespace Go.Proofs.YtocogcgnahbpkaaGreat
open Go.RowKit
structure AR where
 kind:Int
 nd:Int
 n:Int
 draw:Int
 A:Option Addr
 dn:Nat
 dc:Nat
 twice:Bool
def encA (x:AR):List Value:=[.int .i64 x.kind,.int .i64 x.nd,.int .i64 x.n,.int .i64 x.draw,.slice x.A x.dn x.dc,.bool x.twice]
structure ActS (w:World) (S:Nat→Prop) (A:Option Addr) (xs:List (AR×List (BR×List Int))):Prop where
 row:RowS encA 6 w S A (xs.map (·.1))
 dat:∀ p∈xs,DataS w S p.1.A p.2∧p.1.dn=p.2.length
theorem ActS.keep {w w':World} {S:Nat→Prop} {A:Option Addr} {xs:List (AR×List (BR×List Int))} (h:ActS w S A xs) (hk:∀ j,S j→w'.heap[j]?=w.heap[j]?):ActS w' S A xs:=⟨h.row.keep hk,fun p hp=>⟨(h.dat p hp).1.keep hk,(h.dat p hp).2⟩⟩
end Go.Proofs.YtocogcgnahbpkaaGreat
namespace Go.Proofs.YtocogcgnahbpkaaGreat
open Go.ChangeShapes Go.WideShapes Go.RowKit Go.Deep
theorem weights_mem_all {H:Type} {P:Program} {e:TypeId}:∀ {ds:List (DataW H)} {d:DataW H},d∈ds→∀ n∈d.weights P e,n∈DataW.weightsAll P e ds
 | [],_,hd,_,_=>nomatch hd
 | d0 :: r,d,hd,n,hn=>by
  simp only [DataW.weightsAll,List.mem_append]
  rcases List.mem_cons.1 hd with rfl | hd
  ·exact .inl hn
  ·exact .inr (weights_mem_all hd n hn)
theorem cell_lt {W:World} {a:Addr} {v:Value} (h:W.cell? a=some v):a.spot=none∧a.block<W.heap.size:=by
 refine ⟨World.cell?_spot h,?_⟩
 unfold World.cell? at h
 split at h
 ·next hh=>exact (Array.getElem?_eq_some_iff.1 hh).1
 ·cases h
section
variable {H:Type} {enc:TypeId×Value→H}
theorem open_data {W:World} {held:Bool} {fuel:Nat} {cs:List Value} {x:DataW H×List MemPlace} (h:DataW.trod enc Tryz.prog W 0 (fun _=>true) held fuel 29 cs=some x) (hw:∀ n∈x.1.weights Tryz.prog 29,n≤reachBytes) :
  ∃ (A:Option Addr) (c:Nat) (ds:List (BR×List Int)),cs=[.slice A ds.length c]∧DataS W (·<W.heap.size) A ds∧ds.length≤140737488351232:=by
 rcases open_int_rows Tryz.underlying29 Tryz.underlying65 Tryz.underlying5 (by kernel_rfl) (by kernel_rfl) h with ⟨rfl,_⟩ | ⟨a,len,cap,A,L,C,Z,rfl,_,hlc,hcm,hx,hel⟩
 ·exact ⟨none,0,[],rfl,⟨.inl rfl,fun p hp=>nomatch hp⟩,by simp⟩
 ·have hwn:(len+(cap-len))*Tryz.prog.bytesOf 65≤reachBytes:=by
   refine hw _ ?_
   rw [hx]
   simp [DataW.weights,Tryz.underlying29]
  have hb65:Tryz.prog.bytesOf 65=24:=by kernel_rfl
  have hb5:Tryz.prog.bytesOf 5=1:=by kernel_rfl
  rw [hb65] at hwn
  have hC:∀ r,r<len→C r≤reachBytes:=by
   intro r hr
   rcases hA:A r with _ | a'
   ·rw [(hel r (by omega)).2.2.2.2.2.1 hA];exact Nat.zero_le _
   ·have hz:=(hel r (by omega)).2.2.2.1
    have hlc':=(hel r (by omega)).2.1
    refine hw _ ?_
    rw [hx]
    simp only [DataW.weights,Tryz.underlying29,List.mem_cons,List.mem_append]
    right;left
    refine weights_mem_all (d:=intRow .u8 (A r) (L r) (Z r)) (List.mem_map.2 ⟨r,List.mem_range.2 hr,rfl⟩) _ ?_
    rw [hA]
    simp [intRow,DataW.weights,Tryz.underlying65,hb5,lits,hz]
    left;omega
  unfold reachBytes at hwn hC
  refine ⟨some a,cap,(List.range len).map fun r=>(⟨A r,L r,C r⟩,(Z r).take (L r)),by simp,⟨?_,fun p hp=>?_⟩,by simp;omega⟩
  ·rcases Nat.eq_zero_or_pos len with h0 | h0
   ·subst h0;exact .inl rfl
   ·have hc0:=(hel 0 (by omega)).1
    obtain ⟨hs,hl⟩:=cell_lt hc0
    obtain ⟨b,o,spot⟩:=a
    simp only [Addr.add] at hs hl
    subst hs
    refine .inr ⟨b,o,rfl,hl,fun k y hk j v hv=>?_⟩
    rw [List.map_map,List.getElem?_map] at hk
    have hkl:k<len:=by
     rcases Nat.lt_or_ge k len with h | h
     ·exact h
     ·rw [List.getElem?_eq_none (by simpa using h)] at hk;cases hk
    rw [List.getElem?_range hkl] at hk
    simp only [Option.map_some,Option.some.injEq,Function.comp] at hk
    subst hk
    have hj:j=0:=by have:=(List.getElem?_eq_some_iff.1 hv).1;simp [encBR] at this;exact this
    subst hj
    simp [encBR] at hv
    subst hv
    have:=(hel k (by omega)).1
    rw [Addr.add_lit] at this
    simpa using this
  ·obtain ⟨r,hr,rfl⟩:=List.mem_map.1 hp
   have hr':=List.mem_range.1 hr
   obtain ⟨_,h1,_,h3,_,h5,h6⟩:=hel r (by omega)
   have hCr:=hC r hr'
   have hlen:((Z r).take (L r)).length=L r:=by rw [List.length_take,h3];omega
   refine ⟨?_,hlen.symm,by simp only;omega⟩
   rcases Nat.eq_zero_or_pos (L r) with h0 | h0
   ·exact .inl (by simp [h0])
   ·rcases hA:A r with _ | a'
    ·have:=h5 hA;omega
    ·obtain ⟨_,hc⟩:=h6 a' hA
     obtain ⟨hs,hl⟩:=cell_lt (hc 0 (by omega))
     obtain ⟨b,o,spot⟩:=a'
     simp only [Addr.add] at hs hl
     subst hs
     refine .inr ⟨b,o,rfl,hl,fun k y hk j v hv=>?_⟩
     have hkl:k<L r:=by have h9:k<((Z r).take (L r)).length:=(List.getElem?_eq_some_iff.1 hk).1;omega
     have hj:j=0:=by have:=(List.getElem?_eq_some_iff.1 hv).1;simp [encB] at this;exact this
     subst hj
     simp [encB] at hv
     subst hv
     have h7:=hc k (by omega)
     have h8:(Z r).getD k 0=y:=by
      rw [List.getElem?_take,if_pos hkl] at hk
      simp [List.getD,hk]
     rw [h8,Addr.add_lit] at h7
     simpa using h7
end
section
variable {w w':World} {S:Nat→Prop} {B bw b i:Nat} {bs:List Nat} {g:VG} {sg:Nat→SG} {net:List (MR×List (LE×List Int))} {Fs:Nat→Nat→Prop} {h:Nat} {cf:Rf.Cfg} {K K':Nat} {ws:Rf.Wd} {gh gh':Rf.Gh} {calm:Bool} {ss:Option Addr×Nat}
theorem CWf.more {R:Nat→Prop} (hx:CWf R w B bw bs cf K calm ss ws gh) (hK:K≤K') (h2:K'<65536):CWf R w B bw bs cf K' calm ss ws gh:=by
 obtain ⟨S,g,sg,net,Fs,h,hC,e,f⟩:=hx
 exact ⟨S,g,sg,net,Fs,h,{ hC with ok:=hC.ok.more hK h2,nm:=hC.nm.more hK },e,f⟩
theorem CW.stay (hC:CW w S B bw bs g sg net Fs h cf K ws gh) (hcal:g.calm=calm) (hK:K≤K') (h2:K'<65536) (n:Nat):CWf (fun j=>Fr g bw bs Fs cf.n j∨n≤j) w B bw bs cf K' calm (g.sA,g.sc) ws gh :=
 CWf.more ⟨S,g,sg,net,Fs,h,hC,⟨hcal,rfl⟩,fun _ hj=>.inl hj⟩ hK h2
def ActQ (cf:Rf.Cfg) (i:Nat) (kind:Int) (ws ws':Rf.Wd):Prop :=
 (kind=1∧∃ d,ws'=⟨Rf.setN ws.nd (i+1) (Rf.tick cf d (ws.nd (i+1))).1,capd false (ws.net++(Rf.tick cf d (ws.nd (i+1))).2)⟩) ∨
 (kind=2∧(ws'=ws∨∃ m d nn,m∈ws.net∧(∀ x,x∈nn→x∈ws.net)∧ws'=⟨Rf.setN ws.nd m.dst (Rf.message cf d m (ws.nd m.dst)).1,capd false (nn++(Rf.message cf d m (ws.nd m.dst)).2)⟩)) ∨
 (kind=3∧(∀ x,x∈ws'.net→x∈ws.net)∧ws'.nd=ws.nd∧ws'.net.length≤200) ∨
 (kind=7∧∃ d k,k≤(ws.nd (i+1)).commit∧ws'=⟨Rf.setN ws.nd (i+1) (Rf.fresh cf d (i+1) (ws.nd (i+1)).term (ws.nd (i+1)).vote (ws.nd (i+1)).log k),ws.net⟩)
set_option maxRecDepth 100000 in
set_option maxHeartbeats 1000000 in
theorem cw_beginf (hC:CW w S B bw bs g sg net Fs h cf K ws gh) (hcal:g.calm=calm) (hi:i<cf.n) (hb:bs[i]?=some b) {k:Nat} (hk:k≤(ws.nd (i+1)).commit) (draw:Int) :
  Calls Tryz.prog 23 #[.pointer (some ⟨bw,0,none⟩),.pointer (some ⟨b,0,none⟩),.int .i64 (k:Int),.int .i64 draw,.bool false] w fun e w'=>e=.returned (.bool true)∧CWf (fun j=>Fr g bw bs Fs cf.n j∨w.heap.size≤j) w' B bw bs cf K calm (g.sA,g.sc) ⟨Rf.setN ws.nd (i+1) (Rf.fresh cf draw (i+1) (ws.nd (i+1)).term (ws.nd (i+1)).vote (ws.nd (i+1)).log k),ws.net⟩ gh∧Chg (Fr g bw bs Fs cf.n) w w':=by
 have hs:=hC.at_.seat i b hb
 have hse:=hC.seat i hi
 have hll:=hC.log hi
 have hlk:=hC.log_le (i+1)
 have hsm:=hC.ok.small
 have hI:=hC.ok.inv
 have hcm:=(hI.comm (i+1)).1
 have htm:(ws.nd (i+1)).term≤K:=by have:=hC.ok.bnd.term (i+1);omega
 have hv0:(ws.nd (i+1)).vote≠0→(ws.nd (i+1)).term≠0:=fun hv ht=>by
  have:=(hI.votes (ws.nd (i+1)).term (i+1) (ws.nd (i+1)).vote hv (hI.voteN (i+1))).2.2.2.1 0
  omega
 have hbl:=hs.1.blk
 have hbm:b∈bs:=List.mem_of_getElem? hb
 have hpe:=hC.at_.peers
 have hwb:=hC.at_.wb
 unfold wcellsG at hwb
 unfold scellsG at hbl
 rw [hC.cfg.1,hC.cfg.2.1,hC.cfg.2.2.1,hC.cfg.2.2.2.1,hC.cfg.2.2.2.2] at hwb
 rw [hC.cfg.1] at hpe
 rw [hs.2,hse.1,hse.2.1] at hbl
 refine (wbegin_any bw b cf.n ((i+1:Nat):Int) cf.batch (ints (List.range' 1 cf.n)) S g.pA (sg (i+1)).dA g.pc (sg (i+1)).dn (sg (i+1)).dc cf.least cf.most cf.beat (ws.nd (i+1)).term (ws.nd (i+1)).vote _ _ _ _ k draw _ _ _ _ _ _ _ _ _ (sg (i+1)).dl w hwb hbl (fun j hj=>⟨hC.at_.bd j hj,fun e=>hC.at_.st j hj (e▸.inr (.inl hbm))⟩) (by simp [ints]) hpe hs.1.dl hs.1.dn ?_ (cfg_ok hC.cok hi)).mono ?_
 ·rw [hse.2.2.2.2.2]
  refine ⟨by omega,by omega,?_,by omega,by omega,⟨fun _=>rfl,fun _=>rfl⟩,by omega,by omega,by rw [numb_len];omega,log_ok (hI.logA (i+1)) hI.llT (hI.logT (i+1)) (by omega),by omega,by rw [numb_len];omega⟩
  by_cases hv:(ws.nd (i+1)).vote=0
  ·exact .inl (by rw [hv];rfl)
  ·refine .inr ⟨by have:=hv0 hv;omega,List.mem_map.2 ⟨(ws.nd (i+1)).vote,List.mem_range'_1.2 ?_,rfl⟩⟩
   have:=(hC.tame i hi).vt
   omega
 ·rintro e w' ⟨rfl,F',bn,c,hN,hbl',hc,hF,hcp,hcl,hcn⟩
  rw [hse.2.2.2.2.2] at hcl
  have hid:=new_idle hC.cok hN hcp hcl hcn
  obtain ⟨x',hx'⟩:∃ x':SG,x'={ sg (i+1) with bn:=bn,cm:=(k:Int),ro:=1,le:=0 }:=⟨_,rfl⟩
  have hbl2:w'.heap[b]?=some (.cells (scellsG x') 52 (0,0)):=by
   rw [hbl',hx'];unfold scellsG
   simp only [hs.2,hse.1,hse.2.1]
  have hS:∀ j,S j→j≠b:=fun j hj e=>hC.at_.st j hj (e▸.inr (.inl hbm))
  have hat:=hC.at_.reseat hb hc hbl2 (by rw [hx'];exact hs.2) (by rw [hx'];exact hs.1.dl) (by rw [hx'];exact hs.1.dn) (by rw [hx'];exact hs.1.dc)
  obtain ⟨hok,_⟩:=hC.ok.crash (draw:=draw) hC.cok (i:=i+1) (by omega) hk
  have hbd:∀ l,l<cf.n→∀ j,Fs l j→j<w.heap.size:=fun l hl=>(hC.node l hl).bd.1
  have hnb:∀ l,l<cf.n→∀ j,Fs l j→j≠b:=fun l hl j hj e=>(hC.apart l hl j hj).2.1 (e▸.inr (.inl hbm))
  have hxs:∀ l,l≠i→setS sg (i+1) x' (l+1)=sg (l+1):=fun l hl=>by unfold setS;rw [if_neg (by omega)]
  have hns:∀ l,l≠i→(Rf.setN ws.nd (i+1) (Rf.fresh cf draw (i+1) (ws.nd (i+1)).term (ws.nd (i+1)).vote (ws.nd (i+1)).log k)) (l+1)=ws.nd (l+1):=fun l hl=>Rf.setN_ne _ _ (by omega)
  have hni:(Rf.setN ws.nd (i+1) (Rf.fresh cf draw (i+1) (ws.nd (i+1)).term (ws.nd (i+1)).vote (ws.nd (i+1)).log k)) (i+1)=_:=Rf.setN_at _ _ _
  have hfr:∀ j,Fr g bw bs (fun l=>if l=i then F' else Fs l) cf.n j→Fr g bw bs Fs cf.n j∨w.heap.size≤j:=fun j hj=>by
   rcases hj with hj | ⟨l,hl,hj⟩
   ·exact .inl (.inl hj)
   ·by_cases hli:l=i
    ·subst hli
     simp only [if_true] at hj
     exact .inr (hF j hj)
    ·simp only [if_neg hli] at hj
     exact .inl (.inr ⟨l,hl,hj⟩)
  refine ⟨rfl,⟨S,g,setS sg (i+1) x',net,fun l=>if l=i then F' else Fs l,h,⟨hat,hC.cfg,fun l hl=>?_,fun l hl j hj=>?_,⟨hC.base.1,fun l hl j hj=>?_⟩,fun l hl=>?_,hC.net,hC.inv,fun l hl=>?_,hC.cok,hok,hC.h3,fun l hl=>?_,hC.nm,fun q hq=>?_⟩,⟨hcal,rfl⟩,hfr⟩,hc.mono fun j hj=>.inl (.inl (.inr (.inl (hj▸hbm))))⟩
  ·by_cases hli:l=i
   ·subst hli
    simp only [if_true]
    rw [hni,setS_same,hx']
    exact hid
   ·simp only [if_neg hli]
    rw [hxs l hli,hns l hli]
    exact (hC.node l hl).keep hc.size fun j hj hlt=>hc.keep hlt (hnb l hl j hj)
  ·by_cases hli:l=i
   ·subst hli
    simp only [if_true] at hj
    have:=hF j hj
    refine ⟨fun hs=>by have:=hC.at_.bd j hs;omega,fun hm=>by have:=hC.at_.mutLt j hm;omega,fun m hm hne hfm=>?_⟩
    simp only [if_neg hne] at hfm
    have:=hbd m hm j hfm;omega
   ·simp only [if_neg hli] at hj
    have ha:=hC.apart l hl j hj
    have:=hbd l hl j hj
    refine ⟨ha.1,ha.2.1,fun m hm hne hfm=>?_⟩
    by_cases hmi:m=i
    ·subst hmi
     simp only [if_true] at hfm
     have:=hF j hfm;omega
    ·simp only [if_neg hmi] at hfm
     exact ha.2.2 m hm hne hfm
  ·by_cases hli:l=i
   ·subst hli
    simp only [if_true] at hj
    have h1:=hF j hj
    have h2:=hC.base.1 bw (.inl rfl)
    have h3:=block_lt hC.at_.wb
    omega
   ·simp only [if_neg hli] at hj
    exact hC.base.2 l hl j hj
  ·by_cases hli:l=i
   ·subst hli
    simp only
    rw [hni,setS_same,hx']
    exact ⟨hse.1,hse.2.1,rfl,rfl,rfl,hse.2.2.2.2.2⟩
   ·simp only
    rw [hxs l hli,hns l hli]
    exact hC.seat l hl
  ·by_cases hli:l=i
   ·subst hli
    simp only
    rw [hni]
    exact Nat.le_trans hk (hC.cmh l hl)
   ·simp only
    rw [hns l hli]
    exact hC.cmh l hl
  ·by_cases hli:l=i
   ·subst hli
    simp only
    rw [hni]
    exact Rf.Tame.fresh (hC.tame l hl).vt
   ·simp only
    rw [hns l hli]
    exact hC.tame l hl
  ·simp only
   rw [Rf.setN_ne _ _ (by omega)]
   exact hC.out q hq
set_option maxRecDepth 100000 in
set_option maxHeartbeats 1000000 in
theorem crashf_any (hC:CW w S B bw bs g sg net Fs h cf K ws gh) (hcal:g.calm=calm) (hi:i<cf.n) (hb:bs[i]?=some b) (n draw:Int) :
  Calls Tryz.prog 19 #[.pointer (some ⟨bw,0,none⟩),.pointer (some ⟨b,0,none⟩),.int .i64 n,.int .i64 draw] w fun e w'=>e=.returned (.bool true)∧∃ k,CWf (fun j=>Fr g bw bs Fs cf.n j∨w.heap.size≤j) w' B bw bs cf K calm (g.sA,g.sc) ⟨Rf.setN ws.nd (i+1) (Rf.fresh cf draw (i+1) (ws.nd (i+1)).term (ws.nd (i+1)).vote (ws.nd (i+1)).log k),ws.net⟩ gh∧k≤(ws.nd (i+1)).commit∧Chg (Fr g bw bs Fs cf.n) w w':=by
 have hs:=hC.at_.seat i b hb
 have hse:=hC.seat i hi
 have d5:=vs5 hs.1.blk
 have d8:=vs8 hs.1.blk
 have d2:=vs2 hs.1.blk
 rw [hse.2.2.1] at d8
 have hlb:=block_lt hs.1.blk
 have hcm:=(hC.ok.inv.comm (i+1)).1
 have hlk:=hC.log_le (i+1)
 have hsm:=hC.ok.small
 obtain ⟨cm,hcmd⟩:∃ cm,cm=(ws.nd (i+1)).commit:=⟨_,rfl⟩
 have HCMD:=ld hcmd
 rw [←hcmd] at d8 hcm
 have hcm6:cm≤65536:=by omega
 have HB:Hid (∀ k,k≤cm→Calls Tryz.prog 23 #[.pointer (some ⟨bw,0,none⟩),.pointer (some ⟨b,0,none⟩),.int .i64 (k:Int),.int .i64 draw,.bool false] w _):=ld fun k hk=>cw_beginf hC hcal hi hb (k:=k) (by rw [←hcmd];exact hk) draw
 clear hs hse hC hcmd hcm hlk hsm
 by_cases h0:cm=0
 ·have hcb:¬ ((0:Int)<(cm:Int)):=by omega
  have HH:=HB.out 0 (Nat.zero_le _)
  have HH:=ld HH
  clear h0 HB
  go_enter Tryz.func19,Tryz.ntmps19
  go_wp2_with (go_at_call 23;refine HH.out.mono ?_;rintro e w3 ⟨rfl,hx3,hc3⟩)
  go_ret
  exact ⟨rfl,0,hx3,Nat.zero_le _,hc3⟩
 ·have hcb:(0:Int)<(cm:Int):=by omega
  have hw:=wholeV_in n (lo:=0) (hi:=cm) (by omega)
  obtain ⟨k,hk⟩:∃ k:Nat,wholeV n 0 cm=k:=⟨(wholeV n 0 cm).toNat,by omega⟩
  have HW:=ld (whole_any n 0 cm w (by decide) (by omega) (by omega))
  rw [hk] at HW hw
  have HH:=ld (HB.out k (by omega))
  have HKC:Hid (k≤(ws.nd (i+1)).commit):=ld (by rw [←HCMD.out];omega)
  clear h0 HB hk hw
  go_enter Tryz.func19,Tryz.ntmps19
  go_wp2_with (first
   | (go_at_call 24;refine HW.out.mono ?_;rintro e w2 ⟨rfl,hw2⟩;obtain rfl:=hw2)
   | (go_at_call 23;refine HH.out.mono ?_;rintro e w3 ⟨rfl,hx3,hc3⟩))
  go_ret
  exact ⟨rfl,k,hx3,HKC.out,hc3⟩
set_option maxRecDepth 100000 in
set_option maxHeartbeats 20000000 in
theorem act_small (hC:CW w S B bw bs g sg net Fs h cf K ws gh) (hcal:g.calm=false) (hB:B≤w.heap.size) (hKb:K+1≤60000) (hnl:ws.net.length≤200) (kind nd n draw:Int) (dA:Option Addr) (dn dc:Nat) (twice:Bool) (hk:kind=1∨kind=2∨kind=3∨kind=7) :
  Calls Tryz.prog 10 #[.pointer (some ⟨bw,0,none⟩),.agg #[.int .i64 kind,.int .i64 nd,.int .i64 n,.int .i64 draw,.slice dA dn dc,.bool twice]] w fun e w'=>e=.returned (.bool true)∧∃ ws' gh',CWf (fun j=>Fr g bw bs Fs cf.n j∨w.heap.size≤j) w' B bw bs cf (K+1) false (g.sA,g.sc) ws' gh'∧ActQ cf (nth cf nd) kind ws ws'∧Chg (Fr g bw bs Fs cf.n) w w':=by
 have hn:=nth_lt hC.cok nd
 have hn5:=hC.cok.n
 have HC:=ld hC
 have HCAL:=ld hcal
 clear hC hcal
 go_enter Tryz.func10,Tryz.ntmps10
 go_wp2_with (fail)
 have hb1:=below_one w (.cells #[.int .i64 kind,.int .i64 nd,.int .i64 n,.int .i64 draw,.slice dA dn dc,.bool twice] 31)
 have hz1:=World.alloc_at w (.cells #[.int .i64 kind,.int .i64 nd,.int .i64 n,.int .i64 draw,.slice dA dn dc,.bool twice] 31)
 have HC1:=ld (HC.out.below hb1)
 have HSE:=ld (seat_any HC1.out nd)
 obtain ⟨z,hz⟩:∃ z,z=w.heap.size:=⟨_,rfl⟩
 rw [←hz] at hz1
 rw [←hz]
 have HZ:=ld hz
 clear hz
 generalize w.alloc (.cells #[.int .i64 kind,.int .i64 nd,.int .i64 n,.int .i64 draw,.slice dA dn dc,.bool twice] 31)=W1 at hb1 hz1 HC1 HSE ⊢
 have HB1:=ld hb1
 have HZ1:=ld hz1
 have hlz:z<W1.heap.size:=block_lt hz1
 clear hb1 hz1
 refine HSE.out.mono ?_
 rintro e w2 ⟨b,rfl,hb,n2,rfl⟩
 have HC2:=ld (HC1.out.drewN n2)
 have HZ2:Hid ((W1.drewN n2).heap[z]?=some (.cells #[.int .i64 kind,.int .i64 nd,.int .i64 n,.int .i64 draw,.slice dA dn dc,.bool twice] 31 (0,0))):=ld HZ1.out
 have HB2:=ld (below_drewN' HB1.out n2)
 clear HSE HC1 HZ1 HB1 hlz
 generalize W1.drewN n2=W2 at HC2 HZ2 HB2 ⊢
 have hBW:B≤W2.heap.size:=Nat.le_trans hB HB2.out.size
 have hBB:Hid (∀ w',Chg (Fr g bw bs Fs cf.n) W2 w'→Chg (Fr g bw bs Fs cf.n) w w'):=ld fun w' hc=>(Chg.ofBelow HB2.out).trans hc
 have hSZ:Hid (∀ j,Fr g bw bs Fs cf.n j∨W2.heap.size≤j→Fr g bw bs Fs cf.n j∨w.heap.size≤j):=ld fun j hj=>hj.imp id fun h=>Nat.le_trans HB2.out.size h
 have HZF:Hid (¬ Fr g bw bs Fs cf.n z):=ld (HC.out.fresh (Nat.le_of_eq HZ.out.symm))
 obtain ⟨i,hid⟩:∃ i,i=nth cf nd:=⟨_,rfl⟩
 have HID:=ld hid
 rw [←hid] at hb hn
 have hi:i<cf.n:=hn.1
 clear hn hid
 have hlz:z<W2.heap.size:=block_lt HZ2.out
 have z0:W2.cell? ⟨z,0,none⟩=some (.int .i64 kind):=cell_block HZ2.out 0 _ rfl
 have z2:W2.cell? ⟨z,2,none⟩=some (.int .i64 n):=cell_block HZ2.out 2 _ rfl
 have z3:W2.cell? ⟨z,3,none⟩=some (.int .i64 draw):=cell_block HZ2.out 3 _ rfl
 have z4:W2.cell? ⟨z,4,none⟩=some (.slice dA dn dc):=cell_block HZ2.out 4 _ rfl
 have z5:W2.cell? ⟨z,5,none⟩=some (.bool twice):=cell_block HZ2.out 5 _ rfl
 have hnl2:ws.net.length≤900000000:=by omega
 by_cases k1:kind=1
 ·subst k1
  go_wp2_with (go_at_call 15;refine (cw_tick HC2.out HCAL.out hi hb hBW (by omega) hnl2 _ _ _ _ _ _ _ _ _ _ _ _ _ _ _).mono ?_;rintro e w4 ⟨rfl,gh4,hx4,hext4,hc4⟩;have HX4:=ld hx4;have HC4:=ld hc4;clear hx4 hext4 hc4)
  go_ret
  exact ⟨rfl,_,gh4,(HX4.out.mono hSZ.out),.inl ⟨rfl,by rw [←HID.out];exact ⟨_,rfl⟩⟩,hBB.out _ HC4.out⟩
 by_cases k2:kind=2
 ·subst k2
  obtain ⟨nA,nc,c7⟩:=HC2.out.netCell
  have hlw:bw<W2.heap.size:=block_lt HC2.out.at_.wb
  by_cases hne:ws.net.length=0
  ·have hneb:((ws.net.length:Int)==0)=true:=by rw [hne];rfl
   clear hne
   go_wp2_with (fail)
   go_ret
   exact ⟨rfl,ws,gh,HC2.out.stay HCAL.out (Nat.le_succ _) (by omega) _,.inr (.inl ⟨rfl,.inl rfl⟩),hBB.out _ Chg.refl⟩
  ·have hneb:((ws.net.length:Int)==0)=false:=by simpa using hne
   have hw1:IntKind.i64.wrap ((ws.net.length:Int)-1)=(ws.net.length:Int)-1:=IntWalk.i64_in _ (by omega)
   have hwn:=wholeV_in n (lo:=0) (hi:=(ws.net.length:Int)-1) (by omega)
   obtain ⟨k,hk⟩:∃ k:Nat,wholeV n 0 ((ws.net.length:Int)-1)=k:=⟨(wholeV n 0 ((ws.net.length:Int)-1)).toNat,by omega⟩
   have HW:Hid (∀ m,Calls Tryz.prog 24 #[.int .i64 n,.int .i64 0,.int .i64 ((ws.net.length:Int)-1)] (W2.drewN m) fun e w'=>e=.returned (.int .i64 (k:Int))∧w'=W2.drewN m):=ld fun m=>by
    have:=whole_any n 0 ((ws.net.length:Int)-1) (W2.drewN m) (by decide) (by omega) (by omega)
    rw [hk] at this
    exact this
   rw [hk] at hwn
   have hkl:k<ws.net.length:=by omega
   clear hk hwn hne
   go_upto_region 10 with (fail)
   go_quiet (first | (go_at_call 24;refine Calls.quiet_of_same (HW.out _)))
   generalize hW3:W2.drewN _=W3
   have HC3:=ld (show CW W3 S B bw bs g sg net Fs h cf K ws gh from by rw [←hW3];exact HC2.out.drewN _)
   have HZ3:Hid (W3.heap[z]?=some (.cells #[.int .i64 2,.int .i64 nd,.int .i64 n,.int .i64 draw,.slice dA dn dc,.bool twice] 31 (0,0))):=ld (by rw [←hW3];exact HZ2.out)
   have hBW3:B≤W3.heap.size:=by rw [←hW3];exact hBW
   have hSZ3:Hid (∀ j,Fr g bw bs Fs cf.n j∨W3.heap.size≤j→Fr g bw bs Fs cf.n j∨w.heap.size≤j):=ld (by rw [←hW3];exact hSZ.out)
   have hBB3:Hid (∀ w',Chg (Fr g bw bs Fs cf.n) W3 w'→Chg (Fr g bw bs Fs cf.n) w w'):=ld fun w' hc=>hBB.out w' ⟨by rw [hc.os,←hW3];rfl,by rw [hc.tape,←hW3];rfl,by rw [hc.output,←hW3];rfl,by have:=hc.size;rw [←hW3] at this;exact this,fun j hj hf=>by have:=hc.block j (by rw [←hW3];exact hj) hf;rw [this,←hW3];rfl⟩
   clear hW3 HW hw1 z0 z2 z3 z4 z5 hlz c7 hlw
   have hlz:z<W3.heap.size:=block_lt HZ3.out
   have z0:W3.cell? ⟨z,0,none⟩=some (.int .i64 2):=cell_block HZ3.out 0 _ rfl
   have z3:W3.cell? ⟨z,3,none⟩=some (.int .i64 draw):=cell_block HZ3.out 3 _ rfl
   have z5:W3.cell? ⟨z,5,none⟩=some (.bool twice):=cell_block HZ3.out 5 _ rfl
   obtain ⟨m,hm⟩:∃ m,ws.net[k]?=some m:=⟨_,List.getElem?_eq_getElem hkl⟩
   have HM:=ld hm
   clear hm
   go_wp2_with (go_at_call 25;refine (arrive_any HC3.out HCAL.out hBW3 (by omega) hnl2 k m HM.out draw twice _ rfl).mono ?_;rintro e w4 ⟨rfl,gh4,hx4,hext4,hok4,hc4⟩;have HX4:=ld hx4;have HC4:=ld hc4;clear hx4 hext4 hok4 hc4)
   go_ret
   exact ⟨rfl,_,gh4,(HX4.out.mono hSZ3.out).more (Nat.le_succ _) (by omega),.inr (.inl ⟨rfl,.inr ⟨m,draw,_,List.mem_of_getElem? HM.out,fun x hx=>by (split at hx;exact hx;exact mem_eraseIdx' hx),rfl⟩⟩),hBB3.out _ HC4.out⟩
 by_cases k3:kind=3
 ·subst k3
  obtain ⟨nA,nc,c7⟩:=HC2.out.netCell
  have hlw:bw<W2.heap.size:=block_lt HC2.out.at_.wb
  by_cases hne:ws.net.length=0
  ·have hneb:((ws.net.length:Int)==0)=true:=by rw [hne];rfl
   clear hne
   go_wp2_with (fail)
   go_ret
   exact ⟨rfl,ws,gh,HC2.out.stay HCAL.out (Nat.le_succ _) (by omega) _,.inr (.inr (.inl ⟨rfl,fun _ h=>h,rfl,hnl⟩)),hBB.out _ Chg.refl⟩
  ·have hneb:((ws.net.length:Int)==0)=false:=by simpa using hne
   have hw1:IntKind.i64.wrap ((ws.net.length:Int)-1)=(ws.net.length:Int)-1:=IntWalk.i64_in _ (by omega)
   have hwn:=wholeV_in n (lo:=0) (hi:=(ws.net.length:Int)-1) (by omega)
   obtain ⟨k,hk⟩:∃ k:Nat,wholeV n 0 ((ws.net.length:Int)-1)=k:=⟨(wholeV n 0 ((ws.net.length:Int)-1)).toNat,by omega⟩
   have HW:Hid (∀ m,Calls Tryz.prog 24 #[.int .i64 n,.int .i64 0,.int .i64 ((ws.net.length:Int)-1)] (W2.drewN m) fun e w'=>e=.returned (.int .i64 (k:Int))∧w'=W2.drewN m):=ld fun m=>by
    have:=whole_any n 0 ((ws.net.length:Int)-1) (W2.drewN m) (by decide) (by omega) (by omega)
    rw [hk] at this
    exact this
   rw [hk] at hwn
   have hkl:k<ws.net.length:=by omega
   clear hk hwn hne
   go_upto_region 10 with (fail)
   go_quiet (first | (go_at_call 24;refine Calls.quiet_of_same (HW.out _)))
   generalize hW3:W2.drewN _=W3
   have HC3:=ld (show CW W3 S B bw bs g sg net Fs h cf K ws gh from by rw [←hW3];exact HC2.out.drewN _)
   have HZ3:Hid (W3.heap[z]?=some (.cells #[.int .i64 3,.int .i64 nd,.int .i64 n,.int .i64 draw,.slice dA dn dc,.bool twice] 31 (0,0))):=ld (by rw [←hW3];exact HZ2.out)
   have hBW3:B≤W3.heap.size:=by rw [←hW3];exact hBW
   have hSZ3:Hid (∀ j,Fr g bw bs Fs cf.n j∨W3.heap.size≤j→Fr g bw bs Fs cf.n j∨w.heap.size≤j):=ld (by rw [←hW3];exact hSZ.out)
   have hBB3:Hid (∀ w',Chg (Fr g bw bs Fs cf.n) W3 w'→Chg (Fr g bw bs Fs cf.n) w w'):=ld fun w' hc=>hBB.out w' ⟨by rw [hc.os,←hW3];rfl,by rw [hc.tape,←hW3];rfl,by rw [hc.output,←hW3];rfl,by have:=hc.size;rw [←hW3] at this;exact this,fun j hj hf=>by have:=hc.block j (by rw [←hW3];exact hj) hf;rw [this,←hW3];rfl⟩
   clear hW3 HW hw1 z0 z2 z3 z4 z5 hlz c7 hlw
   have hlz:z<W3.heap.size:=block_lt HZ3.out
   have z0:W3.cell? ⟨z,0,none⟩=some (.int .i64 3):=cell_block HZ3.out 0 _ rfl
   have z3:W3.cell? ⟨z,3,none⟩=some (.int .i64 draw):=cell_block HZ3.out 3 _ rfl
   have z5:W3.cell? ⟨z,5,none⟩=some (.bool twice):=cell_block HZ3.out 5 _ rfl
   have hnn2:net.length=ws.net.length:=HC3.out.netl
   obtain ⟨hrow,hnn,hnc⟩:=HC3.out.at_.netO.rowS (S:=fun j=>j<W3.heap.size) len_M (fun j hj=>HC3.out.at_.netO.lt j hj)
   rw [List.length_map,hnn2] at hnn
   obtain ⟨q,hq⟩:∃ q,net[k]?=some q:=⟨_,List.getElem?_eq_getElem (by omega)⟩
   obtain ⟨gN,off,hnA,hgN,_⟩:=RowS.at_ hrow (show (net.map (·.1))[k]?=some q.1 by rw [List.getElem?_map,hq];rfl)
   rw [hnA] at hrow
   have hR1:Row encM 10 W3 W3.heap.size (some ⟨gN,off,none⟩) (net.map (·.1)):=hrow.row fun j hj=>hj
   have HNA:=ld (And.intro hnA hnn)
   rw [hnn] at hnc
   have c7:W3.cell? ⟨bw,7,none⟩=some (.slice (some ⟨gN,off,none⟩) ws.net.length g.nc):=by
    have:=vw7 HC3.out.at_.wb
    rwa [hnA,hnn] at this
   have hml:(net.map (·.1)).length=ws.net.length:=by rw [List.length_map,hnn2]
   have hlw:bw<W3.heap.size:=block_lt HC3.out.at_.wb
   have hfw:=frozen_block HC3.out.at_.wb
   have hnn3:net.length≤200:=by omega
   clear hrow hnn hnA hq hgN hnn2
   go_upto_region 15 with (first
    | (refine wp_cut _ encM 10 rfl (.tmp 62) none (some (.tmp 63)) 38 rfl 59 Tryz.underlying38 size59 W3.heap.size (some ⟨gN,off,none⟩) ws.net.length g.nc rfl (net.map (·.1)) hml.symm hR1 0 k rfl (fun _=>rfl) rfl (fun h=>by cases h) (by omega) (by omega) hnc ?_;intro A1 hr1;rw [List.drop_zero] at hr1)
    | (at_builtin;refine wp_app _ encM 10 rfl _ _ 38 rfl W3.heap.size 59 96 Tryz.underlying38 info59 (by omega) len_M one_M (.slice none 0 0) [] rfl Own.nil W3.heap.size A1 _ _ ((net.map (·.1)).take k) (by rw [List.length_take,hml];omega) rfl hr1 (by simp;omega) (by simp;omega) (Nat.le_refl _) ?_;intro v2 w2 hown2 hg2 hat2 _)
    | fail)
   rw [List.nil_append] at hown2
   obtain ⟨A2,k2,rfl⟩:=hown2.form
   have hb2:Below W3.heap.size W3 w2:=(Below.refl _ _).grown hg2 (Nat.le_refl _) (fun j hj=>by cases hj)
   have HB2':=ld hb2
   have HO2:=ld hown2
   have hl2:((net.map (·.1)).take k).length=k:=by rw [List.length_take,hml];omega
   simp only [hl2] at HO2 ⊢
   have hR2:Row encM 10 w2 W3.heap.size (some ⟨gN,off,none⟩) (net.map (·.1)):=hR1.below hb2
   have HC4:=ld (HC3.out.below hb2)
   clear c7 hR1 hown2 hg2 hat2 hb2 hr1 hlw hfw
   have hlw:bw<w2.heap.size:=block_lt HC4.out.at_.wb
   have hfw:=frozen_block HC4.out.at_.wb
   have c7:w2.cell? ⟨bw,7,none⟩=some (.slice (some ⟨gN,off,none⟩) ws.net.length g.nc):=by
    have:=vw7 HC4.out.at_.wb
    rwa [HNA.out.1,HNA.out.2] at this
   have q1:IntKind.i64.wrap ((k:Int)+1)=(k:Int)+1:=by rw [IntWalk.i64_in _ (by omega)]
   have hkn:(k:Int)<(ws.net.length:Int):=by omega
   have hR3:=hR2.cut (k:=k+1) (n:=ws.net.length) hkl hnc
   rw [List.take_of_length_le (Nat.le_of_eq hml)] at hR3
   have hl4:((net.map (·.1)).take k++(net.map (·.1)).drop (k+1))=(net.eraseIdx k).map (·.1):=by rw [map_eraseIdx',eraseIdx_split]
   by_cases hnk:g.nc=k+1
   ·rw [if_pos hnk] at hR3
    go_wp2_with (first
     | (at_builtin;refine wp_app _ encM 10 rfl _ _ 38 rfl W3.heap.size 59 96 Tryz.underlying38 info59 (by omega) len_M one_M (.slice A2 k k2) ((net.map (·.1)).take k) rfl HO2.out W3.heap.size _ _ _ ((net.map (·.1)).drop (k+1)) (by rw [List.length_drop,hml]) rfl hR3 (by simp;omega) (by simp;omega) HB2'.out.size ?_;intro v4 w4 hown4 hg4 hat4 _;rw [hl4] at hown4;obtain ⟨A4,k4,rfl⟩:=hown4.form;have hb4:Below W3.heap.size W3 w4:=HB2'.out.grown hg4 HB2'.out.size (fun j hj=>(HO2.out.lt j hj).1);have hC4:=HC3.out.below hb4;have hlw4:bw<w4.heap.size:=block_lt hC4.at_.wb;have hfw4:=frozen_block hC4.at_.wb;have c74:=vw7 hC4.at_.wb)
     | fail)
    go_ret
    obtain ⟨hx1,hx2,hx3⟩:=CW.renet (net':=net.eraseIdx k) (nn:=ws.net.eraseIdx k) HC3.out hBW3 hb4 hown4.ownO (fun j hj=>(hown4.lt j hj).1) (fun x hx=>mem_eraseIdx' hx) (by rw [map_eraseIdx',map_eraseIdx',HC.out.net]) (fun x hx=>mem_eraseIdx' hx)
    simp only [List.length_map] at hx1 hx2 hx3
    exact ⟨rfl,⟨ws.nd,ws.net.eraseIdx k⟩,⟨gh,CWf.more ⟨_,_,_,_,_,_,hx1,⟨HCAL.out,rfl⟩,fun j hj=>hSZ3.out j (hx2 j hj)⟩ (Nat.le_succ _) (by omega)⟩,.inr (.inr (.inl ⟨rfl,fun x hx=>mem_eraseIdx' hx,rfl,Nat.le_trans (List.length_eraseIdx_le _ _) hnl⟩)),hBB3.out _ hx3⟩
   ·rw [if_neg hnk,Option.map_some,Addr.add_lit] at hR3
    go_wp2_with (first
     | (at_builtin;refine wp_app _ encM 10 rfl _ _ 38 rfl W3.heap.size 59 96 Tryz.underlying38 info59 (by omega) len_M one_M (.slice A2 k k2) ((net.map (·.1)).take k) rfl HO2.out W3.heap.size _ _ _ ((net.map (·.1)).drop (k+1)) (by rw [List.length_drop,hml]) rfl hR3 (by simp;omega) (by simp;omega) HB2'.out.size ?_;intro v4 w4 hown4 hg4 hat4 _;rw [hl4] at hown4;obtain ⟨A4,k4,rfl⟩:=hown4.form;have hb4:Below W3.heap.size W3 w4:=HB2'.out.grown hg4 HB2'.out.size (fun j hj=>(HO2.out.lt j hj).1);have hC4:=HC3.out.below hb4;have hlw4:bw<w4.heap.size:=block_lt hC4.at_.wb;have hfw4:=frozen_block hC4.at_.wb;have c74:=vw7 hC4.at_.wb)
     | fail)
    go_ret
    obtain ⟨hx1,hx2,hx3⟩:=CW.renet (net':=net.eraseIdx k) (nn:=ws.net.eraseIdx k) HC3.out hBW3 hb4 hown4.ownO (fun j hj=>(hown4.lt j hj).1) (fun x hx=>mem_eraseIdx' hx) (by rw [map_eraseIdx',map_eraseIdx',HC.out.net]) (fun x hx=>mem_eraseIdx' hx)
    simp only [List.length_map] at hx1 hx2 hx3
    exact ⟨rfl,⟨ws.nd,ws.net.eraseIdx k⟩,⟨gh,CWf.more ⟨_,_,_,_,_,_,hx1,⟨HCAL.out,rfl⟩,fun j hj=>hSZ3.out j (hx2 j hj)⟩ (Nat.le_succ _) (by omega)⟩,.inr (.inr (.inl ⟨rfl,fun x hx=>mem_eraseIdx' hx,rfl,Nat.le_trans (List.length_eraseIdx_le _ _) hnl⟩)),hBB3.out _ hx3⟩
 by_cases k7:kind=7
 ·subst k7
  go_wp2_with (go_at_call 19;refine (crashf_any HC2.out HCAL.out hi hb n draw).mono ?_;rintro e w4 ⟨rfl,k,hx4,hkc,hc4⟩;have HKC:=ld hkc;have HX4:=ld hx4;have HC4:=ld hc4;clear hx4 hkc hc4)
  go_ret
  exact ⟨rfl,_,gh,(HX4.out.mono hSZ.out).more (Nat.le_succ _) (by omega),.inr (.inr (.inr ⟨rfl,draw,k,by rw [←HID.out];exact ⟨HKC.out,rfl⟩⟩)),hBB.out _ HC4.out⟩
 ·exact absurd hk (fun hk=>by rcases hk with h | h | h | h;exact k1 h;exact k2 h;exact k3 h;exact k7 h)
end
section
variable {w w':World} {S:Nat→Prop} {B bw b i:Nat} {bs:List Nat} {g:VG} {sg:Nat→SG} {net:List (MR×List (LE×List Int))} {Fs:Nat→Nat→Prop} {h:Nat} {cf:Rf.Cfg} {K K':Nat} {ws:Rf.Wd} {gh gh':Rf.Gh} {calm:Bool} {ss:Option Addr×Nat}
structure OutOK (cf:Rf.Cfg) (L:Nat) (out:List Nat):Prop where
 nd:out.Nodup
 lead:L+1 ∉ out
 rng:∀ p,p∈out→1≤p∧p≤cf.n
 few:2*out.length<cf.n
theorem okI_small {x:Nat} (h:x≤9):okI (x:Int):=by unfold okI;omega
theorem OutOK.none {L:Nat} (hn:1≤cf.n):OutOK cf L []:=⟨List.nodup_nil,fun h=>absurd h (by simp),fun p hp=>absurd hp (by simp),by simp only [List.length_nil];omega⟩
theorem OutOK.more {L p:Nat} {out:List Nat} (h:OutOK cf L out) (hp:p ∉ out) (hL:p≠L+1) (h1:1≤p) (h2:p≤cf.n) (hf:2*(out.length+1)<cf.n):OutOK cf L (out++[p]) :=
 ⟨List.nodup_append.2 ⟨h.nd,by simp,fun a ha b hb e=>hp (by obtain rfl:=List.mem_singleton.1 hb;rw [←e];exact ha)⟩,
  fun hm=>(List.mem_append.1 hm).elim h.lead fun e=>hL (List.mem_singleton.1 e).symm,
  fun q hq=>(List.mem_append.1 hq).elim (h.rng q) fun e=>by rw [List.mem_singleton.1 e];exact ⟨h1,h2⟩,
  by rw [List.length_append];exact hf⟩
theorem kput_out {l:List (Int×Unit)} {out:List Nat} {p:Nat} (h:l.map (·.1)=ints out) (hp:p ∉ out):(kput l (p:Int) ()).map (·.1)=ints (out++[p]):=by
 have hn:¬ ((p:Int)∈l.map (·.1)):=by rw [h];exact fun hm=>hp (ints_mem'.1 hm)
 unfold kput
 rw [if_neg hn,List.map_append,h]
 unfold ints
 rw [List.map_append]
 rfl
set_option maxRecDepth 100000 in
set_option maxHeartbeats 4000000 in
theorem apart_any {L bl:Nat} (hC:CW w S B bw bs g sg net Fs h cf K ws gh) (hbL:bs[L]?=some bl) (ap:Int) :
  Calls Tryz.prog 13 #[.pointer (some ⟨bw,0,none⟩),.pointer (some ⟨bl,0,none⟩),.int .i64 ap] w fun e w'=>∃ (z:Nat) (l:List (Int×Unit)) (out:List Nat),e=.returned (.map (some z))∧w.heap.size≤z∧Hid (MB w' z l∧l.map (·.1)=ints out∧OutOK cf L out)∧Below w.heap.size w w':=by
 obtain ⟨sb,so,hsA,hsS,_⟩:=hC.seats
 have hn5:=hC.cok.n
 have hsl:=hC.at_.seat L bl hbL
 have HC:=ld hC
 have HBL:=ld hbL
 have HSA:=ld hsA
 have c6:=vw6 hC.at_.wb
 rw [hsA,hC.cfg.1] at c6
 have hlw:=block_lt hC.at_.wb
 have f0:=vs0 hsl.1.blk
 rw [hsl.2] at f0
 have hlf:=block_lt hsl.1.blk
 clear hC hsA hsS hsl hbL
 go_enter Tryz.func13,Tryz.ntmps13
 go_wp2_with (fail)
 rw [run_makeMap]
 have hm0:MB (w.alloc (.map #[] 0)) w.heap.size []:=MapG.made w
 have hba:Below w.heap.size w (w.alloc (.map #[] 0)):=(Below.refl _ _).alloc (Nat.le_refl _) _
 obtain ⟨z,hz⟩:∃ z,z=w.heap.size:=⟨_,rfl⟩
 rw [←hz] at hm0 ⊢
 have HZ:=ld hz
 have HM0:=ld hm0
 have HBA:=ld hba
 clear hm0 hba hz
 generalize w.alloc (.map #[] 0)=W1 at HM0 HBA ⊢
 clear f0 hlf c6 hlw
 go_wp2_with (fail)
 go_loopw [8] (fun sl wr=>∃ (k:Nat) (l:List (Int×Unit)) (out:List Nat),sl=.int .i64 k∧k≤cf.n∧Hid (MB wr z l∧l.map (·.1)=ints out∧OutOK cf L out∧(∀ p,p∈out→p≤k)∧Below w.heap.size w wr)) (fun sl _=>cf.n-(intOf sl).toNat)
 case atStart=>exact ⟨0,[],[],rfl,Nat.zero_le _,ld ⟨HM0.out,rfl,OutOK.none hn5.1,fun p hp=>absurd hp (by simp),HBA.out⟩⟩
 case round =>
  obtain ⟨k,l,out,rfl,hkn,HK⟩:=hrel
  clear HM0 HBA
  have HC3:=ld (HC.out.below HK.out.2.2.2.2)
  have c6:=vw6 HC3.out.at_.wb
  rw [HSA.out,HC3.out.cfg.1] at c6
  have hlw:=block_lt HC3.out.at_.wb
  by_cases hlt:k<cf.n
  ·have hlt':(k:Int)<(cf.n:Int):=by omega
   have hk0:(0:Int)≤(k:Int):=by omega
   obtain ⟨bk,hbk,hsat,hidk⟩:=HC3.out.sat hlt
   have cp:wr.cell? ⟨sb,so+k,none⟩=some (.pointer (some ⟨bk,0,none⟩)):=HC3.out.ptr HSA.out hbk
   have e0:=vs0 hsat.blk
   rw [hidk] at e0
   have hlbk:=block_lt hsat.blk
   have hsl:=HC3.out.at_.seat L bl HBL.out
   have f0:=vs0 hsl.1.blk
   rw [hsl.2] at f0
   have hlf:=block_lt hsl.1.blk
   obtain ⟨qk,hqk⟩:∃ qk:Nat,qk=k+1:=⟨_,rfl⟩
   rw [←hqk] at e0
   obtain ⟨qL,hqL⟩:∃ qL:Nat,qL=L+1:=⟨_,rfl⟩
   rw [←hqL] at f0
   have HQK:=ld hqk
   have HQL:=ld hqL
   clear hqk hqL hbk hsat hidk hsl
   have hll:∀ (m:Nat) (ty:TypeId),(Builtin.len_ #[53] ty #[.map (some z)]).run Tryz.prog (wr.drewN m)=.ok (.int .i64 l.length) (wr.drewN m):=fun m ty=>(HK.out.1.same (w':=wr.drewN m) rfl).len Tryz.underlying53 ty
   have hlo:l.length=out.length:=by have:=congrArg List.length HK.out.2.1;unfold ints at this;rwa [List.length_map,List.length_map] at this
   have hlc:l.length≤5:=by have:=HK.out.2.2.1.few;omega
   have q1:IntKind.i64.wrap ((l.length:Int)+1)=(l.length:Int)+1:=IntWalk.i64_in _ (by omega)
   have q2:IntKind.i64.wrap (2*((l.length:Int)+1))=2*((l.length:Int)+1):=IntWalk.i64_in _ (by omega)
   have HLO:=ld hlo
   clear hlo
   go_upto_region 6 with (fail)
   go_cut [54] (fun v wx=>∃ c:Bool,v=.bool c∧Hid (c=true→qk≠qL∧2*(l.length+1)<cf.n)∧∃ nq,wx=wr.drewN nq)
   case first =>
    rcases Bool.eq_false_or_eq_true (bits BinOp.and IntKind.i64 (ap / 2 ^ k) 1==1) with hb | hb
    ·by_cases hne:qk=qL
     ·have e1:((qk:Int)==(qL:Int))=true:=by simpa using (by omega:(qk:Int)=(qL:Int))
      have e2:((qk:Int) != (qL:Int))=false:=by simp [hne]
      clear hne
      go_quiet (fail)
      go_wp2_with (fail)
      go_meet
      exact ⟨_,rfl,ld (fun h=>absurd h (by decide)),_,rfl⟩
     ·have e1:((qk:Int)==(qL:Int))=false:=by simpa using (by omega:¬ (qk:Int)=(qL:Int))
      have e2:((qk:Int) != (qL:Int))=true:=by simp;omega
      have HNE:=ld hne
      clear hne
      go_quiet (fail)
      go_wp2_with (fail)
      go_meet
      exact ⟨_,rfl,ld (fun h=>⟨HNE.out,by have:=of_decide_eq_true h;omega⟩),_,rfl⟩
    ·go_quiet (fail)
     go_wp2_with (fail)
     go_meet
     exact ⟨_,rfl,ld (fun h=>absurd h (by decide)),_,rfl⟩
   case rest =>
    obtain ⟨c,rfl,HCC,nq,rfl⟩:=hcut
    have HMB:=ld (show MB (wr.drewN nq) z l from HK.out.1.same rfl)
    have HBW:Hid (Below w.heap.size w (wr.drewN nq)):=ld (below_drewN' HK.out.2.2.2.2 nq)
    cases c with
    | false =>
     go_wp2_with (fail)
     go_roundw
     case rel=>exact ⟨k+1,l,out,by go_num,by omega,ld ⟨HMB.out,HK.out.2.1,HK.out.2.2.1,fun p hp=>Nat.le_succ_of_le (HK.out.2.2.2.1 p hp),HBW.out⟩⟩
     case measure=>simp [intOf];omega
    | true =>
     obtain ⟨W4,hrun,hM4,hg4,hz4⟩:=HMB.out.put KI Tryz.underlying53 (qk:Int) (okI_small (by have:=HQK.out;omega)) ()
     have HM4:=ld hM4
     have HB4:Hid (Below w.heap.size w W4):=ld (HBW.out.grown hg4 HBW.out.size (fun j hj=>by injection hj with hj;have:=HZ.out;omega))
     clear hM4 hg4 hz4
     go_wp2_with (fail)
     go_roundw
     case rel =>
      have hqo:qk ∉ out:=fun hm=>by have:=HK.out.2.2.2.1 qk hm;have:=HQK.out;omega
      exact ⟨k+1,_,out++[qk],by go_num,by omega,ld ⟨HM4.out,kput_out HK.out.2.1 hqo,HK.out.2.2.1.more hqo (by rw [←HQL.out];exact (HCC.out rfl).1) (by have:=HQK.out;omega) (by have:=HQK.out;omega) (by rw [←HLO.out];exact (HCC.out rfl).2),fun p hp=>(List.mem_append.1 hp).elim (fun h=>Nat.le_succ_of_le (HK.out.2.2.2.1 p h)) fun h=>by rw [List.mem_singleton.1 h,HQK.out];exact Nat.le_refl _,HB4.out⟩⟩
     case measure=>simp [intOf];omega
  ·have hlt':¬ ((k:Int)<(cf.n:Int)):=by omega
   clear hlt
   go_wp2_with (fail)
   go_ret
   exact ⟨z,rfl,Nat.le_of_eq HZ.out.symm,⟨l,out,ld ⟨HK.out.1,HK.out.2.1,HK.out.2.2.1⟩⟩,HK.out.2.2.2.2⟩
end
section
variable {w w':World} {S:Nat→Prop} {B bw b i:Nat} {bs:List Nat} {g:VG} {sg:Nat→SG} {net:List (MR×List (LE×List Int))} {Fs:Nat→Nat→Prop} {h:Nat} {cf:Rf.Cfg} {K K':Nat} {ws:Rf.Wd} {gh gh':Rf.Gh} {calm:Bool} {ss:Option Addr×Nat}
theorem capd_cap (l:List Rf.Msg):capd false l=Rf.cap l:=by unfold capd Rf.cap;rw [if_neg (by decide)]
theorem CW.netAt (hC:CW w S B bw bs g sg net Fs h cf K ws gh) {k:Nat} {m:Rf.Msg} (hm:ws.net[k]?=some m):∃ gN off c,w.cell? ⟨bw,7,none⟩=some (.slice (some ⟨gN,off,none⟩) ws.net.length c)∧w.cell? ⟨gN,off+k*10+1,none⟩=some (.int .i64 m.src)∧w.cell? ⟨gN,off+k*10+2,none⟩=some (.int .i64 m.dst)∧gN<w.heap.size:=by
 obtain ⟨q,hq,hqm⟩:∃ q,net[k]?=some q∧pmOf q=pmR m:=by
  have:=congrArg (·[k]?) hC.net
  simp only [List.getElem?_map,hm,Option.map_some] at this
  obtain ⟨q,h1,h2⟩:=Option.map_eq_some_iff.1 this
  exact ⟨q,h1,h2⟩
 obtain ⟨hq1,_⟩:=pmOf_inj hqm
 obtain ⟨hrow,hnn,_⟩:=hC.at_.netO.rowS (S:=fun j=>j<w.heap.size) len_M (fun j hj=>hC.at_.netO.lt j hj)
 rw [List.length_map,hC.netl] at hnn
 obtain ⟨gN,off,hnA,hgN,hcl⟩:=RowS.at_ hrow (show (net.map (·.1))[k]?=some q.1 by rw [List.getElem?_map,hq];rfl)
 have h7:=vw7 hC.at_.wb
 rw [hnA,hnn] at h7
 rw [hq1] at hcl
 exact ⟨gN,off,_,h7,hcl 1 _ rfl,hcl 2 _ rfl,hgN⟩
def QW (w:World) (z:Nat) (l:List (Int×Unit)) (B bw:Nat) (bs:List Nat) (cf:Rf.Cfg) (K:Nat) (ss:Option Addr×Nat) (ws:Rf.Wd) (gh:Rf.Gh):Prop:=CWf (·≠z) w B bw bs cf K false ss ws gh∧MB w z l
set_option maxRecDepth 100000 in
set_option maxHeartbeats 4000000 in
theorem among_any {z:Nat} {l:List (Int×Unit)} {out:List Nat} {L T:Nat} {lg:List Rf.Ent} (hx:QW w z l B bw bs cf K ss ws gh) (hlo:l.map (·.1)=ints out) (hB:B≤w.heap.size) (hKb:K≤60000) (hW:Rf.Wp cf L T lg out ws) (hq:Rf.wqs out ws.net≤10) :
  Calls Tryz.prog 16 #[.pointer (some ⟨bw,0,none⟩),.map (some z)] w fun e w'=>e=.returned (.bool true)∧(∃ ws' gh',Hid (QW w' z l B bw bs cf K ss ws' gh'∧Rf.Wq cf L T lg out ws'))∧Below B w w':=by
 have hn5:1≤cf.n∧cf.n≤5:=by obtain ⟨S0,g0,sg0,net0,Fs0,h0,hC0,_,_⟩:=id hx.1;exact hC0.cok.n
 have HX:=ld hx
 have HLO:=ld hlo
 have HW:=ld hW
 clear hx hlo hW
 go_enter Tryz.func16,Tryz.ntmps16
 go_wp2_with (fail)
 go_loopw [5] (fun sl wr=>∃ (j:Nat) (wk:Rf.Wd) (ghk:Rf.Gh),sl=.int .i64 j∧j+Rf.wqs out wk.net≤10∧Hid (QW wr z l B bw bs cf K ss wk ghk∧Rf.Wp cf L T lg out wk∧Below B w wr)) (fun sl _=>11-(intOf sl).toNat)
 case atStart=>exact ⟨0,ws,gh,rfl,by omega,ld ⟨HX.out,HW.out,Below.refl _ _⟩⟩
 case round =>
  obtain ⟨j,wk,ghk,rfl,hj,HK⟩:=hrel
  clear HX HW
  obtain ⟨⟨S,g,sg,net,Fs,h,hC,⟨hcal,hss⟩,hzf⟩,hmb⟩:=HK.out.1
  have HC:=ld hC
  have HCS:=ld (And.intro hcal hss)
  have HZF:=ld hzf
  have HMB:=ld hmb
  have hj5:(j:Int)<5000:=by omega
  have hlw:bw<wr.heap.size:=block_lt hC.at_.wb
  obtain ⟨nA,nc,c7⟩:=hC.netCell
  clear hC hcal hss hzf hmb
  go_wp2_with (fail)
  go_loopw [6] (fun sl w2=>∃ (k:Nat),sl=.int .i64 k∧k≤wk.net.length∧w2=wr∧Hid (∀ i m,i<k→wk.net[i]?=some m→Rf.Apt out m)) (fun sl _=>wk.net.length-(intOf sl).toNat)
  case atStart=>exact ⟨0,rfl,Nat.zero_le _,rfl,ld fun i m hi=>by omega⟩
  case round =>
   obtain ⟨k,rfl,hkl,rfl,HA⟩:=hrel
   have hl200:=HK.out.2.1.len
   by_cases hlt:k<wk.net.length
   ·have hlt':(k:Int)<(wk.net.length:Int):=by omega
    obtain ⟨m,hm⟩:∃ m,wk.net[k]?=some m:=⟨_,List.getElem?_eq_getElem hlt⟩
    obtain ⟨gN,off,c,c7',c1,c2,hgN⟩:=HC.out.netAt hm
    have hM:=(HC.out.ok.inv.msgs m (List.mem_of_getElem? hm)).1
    have hl1:=look_set HMB.out HLO.out m.src (okI_small (by have:=hM.rng;omega))
    have hl2:=look_set HMB.out HLO.out m.dst (okI_small (by have:=hM.rng;omega))
    have HM:=ld hm
    clear hm hM c7
    have hk0:(0:Int)≤(k:Int):=by omega
    by_cases h1:m.src∈out
    ·rw [decide_eq_true h1] at hl1
     have H1:=ld h1
     clear h1 hl2
     go_wp2_with (fail)
     go_roundw
     case rel=>exact ⟨k+1,by go_num,by omega,(by first | rfl | trivial),ld fun i x hi hx=>by
      rcases Nat.lt_or_ge i k with h2 | h2
      ·exact HA.out i x h2 hx
      ·obtain rfl:i=k:=by omega
       rw [HM.out] at hx;injection hx with hx;subst hx;exact .inl H1.out⟩
     case measure=>simp [intOf];omega
    ·rw [decide_eq_false h1] at hl1
     have H1:=ld h1
     clear h1
     by_cases h2:m.dst∈out
     ·rw [decide_eq_true h2] at hl2
      have H2:=ld h2
      clear h2
      go_wp2_with (fail)
      go_roundw
      case rel=>exact ⟨k+1,by go_num,by omega,(by first | rfl | trivial),ld fun i x hi hx=>by
       rcases Nat.lt_or_ge i k with h2 | h2
       ·exact HA.out i x h2 hx
       ·obtain rfl:i=k:=by omega
        rw [HM.out] at hx;injection hx with hx;subst hx;exact .inr H2.out⟩
      case measure=>simp [intOf];omega
     ·rw [decide_eq_false h2] at hl2
      have H2:=ld h2
      have hne:((k:Int)==(wk.net.length:Int))=false:=by simpa using (by omega:¬ (k:Int)=(wk.net.length:Int))
      have hBr:B≤wr.heap.size:=Nat.le_trans hB HK.out.2.2.size
      clear h2 hkl
      go_wp2_with (go_at_call 25;refine (arrive_any HC.out HCS.out.1 hBr hKb (by omega) k m HM.out (j:Int) false _ rfl).mono ?_;rintro e w4 ⟨rfl,gh4,hx4,hext4,hok4,hc4⟩;have HX4:=ld hx4;have HC4:=ld hc4;clear hx4 hext4 hok4 hc4)
      go_roundw
      case rel =>
       obtain ⟨s1,s2⟩:=HK.out.2.1.step (draw:=(j:Int)) HC.out.ok HM.out (fun ha=>ha.elim H1.out H2.out)
       refine ⟨j+1,_,gh4,by go_num,?_,ld ⟨⟨by rw [←HCS.out.2];exact HX4.out.mono fun i hi e=>hi.elim (fun hi=>HZF.out i hi e) fun hi=>by have:=HMB.out.lt;omega,HMB.out.same (HC4.out.keep HMB.out.lt fun hf=>HZF.out z hf rfl)⟩,s1,HK.out.2.2.trans (HC.out.chgB HC4.out hBr)⟩⟩
       ·have:Rf.wqs out (capd false ((if false=true then wk.net else wk.net.eraseIdx k)++(Rf.message cf (j:Int) m (wk.nd m.dst)).2))+1≤Rf.wqs out wk.net:=s2
        simp only at this ⊢
        omega
      case measure=>simp [intOf];omega
   ·have hkc:k=wk.net.length:=by omega
    have hlt':¬ ((k:Int)<(wk.net.length:Int)):=by omega
    have heq:((k:Int)==(wk.net.length:Int))=true:=by simpa using (by omega:(k:Int)=(wk.net.length:Int))
    have HKC:=ld hkc
    clear hkc hlt
    go_wp2_with (fail)
    go_ret
    exact ⟨rfl,⟨wk,ghk,ld ⟨HK.out.1,HK.out.2.1,fun m hm=>by
     obtain ⟨i,hi,rfl⟩:=List.getElem_of_mem hm
     exact HA.out i _ (by rw [HKC.out];exact hi) (List.getElem?_eq_getElem hi)⟩⟩,HK.out.2.2⟩
end
end Go.Proofs.YtocogcgnahbpkaaGreat
