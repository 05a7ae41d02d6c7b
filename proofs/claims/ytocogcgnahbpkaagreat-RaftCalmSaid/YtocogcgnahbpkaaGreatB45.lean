import Derived.ProofKit
import Derived.SizedLaws
import Derived.Deep.Matrix
import Derived.Test.YtocogcgnahbpkaaGreatB12
import Derived.Test.YtocogcgnahbpkaaGreatB29
import Derived.Test.YtocogcgnahbpkaaGreatB43
import Derived.Test.YtocogcgnahbpkaaGreatB44
namespace Go.Proofs.YtocogcgnahbpkaaGreat
open Go.RowKit
theorem capd_len {α:Type} (l:List α):(capd false l).length≤200:=by
 unfold capd
 rw [if_neg (by decide),List.length_drop]
 omega
section
variable {w w':World} {S:Nat→Prop} {B bw b i:Nat} {bs:List Nat} {g:VG} {sg:Nat→SG} {net:List (MR×List (LE×List Int))} {Fs:Nat→Nat→Prop} {h:Nat} {cf:Rf.Cfg} {K K':Nat} {ws:Rf.Wd} {gh gh':Rf.Gh} {calm:Bool} {ss:Option Addr×Nat}
theorem CWx.role (hx:CWx w B bw bs cf K calm ss ws gh) (hi:i<cf.n) (hb:bs[i]?=some b):w.cell? ⟨b,10,none⟩=some (.int .i64 (ws.nd (i+1)).role)∧b<w.heap.size:=by
 obtain ⟨S,g,sg,net,Fs,h,hC,h1⟩:=hx
 have hs:=(hC.at_.seat i b hb).1
 have:=vs10 hs.blk
 rw [(hC.seat i hi).2.2.2.1] at this
 exact ⟨this,block_lt hs.blk⟩
theorem CW.x (hC:CW w S B bw bs g sg net Fs h cf K ws gh):CWx w B bw bs cf K g.calm (g.sA,g.sc) ws gh:=⟨S,g,sg,net,Fs,h,hC,rfl,rfl⟩
structure ActTo (w w':World) (B bw:Nat) (bs:List Nat) (cf:Rf.Cfg) (K:Nat) (ss:Option Addr×Nat) (ws':Rf.Wd) (gh':Rf.Gh):Prop where
 cw:CWx w' B bw bs cf (K+16) false ss ws' gh'
 net:ws'.net.length≤200
 below:Below B w w'
set_option maxRecDepth 100000 in
set_option maxHeartbeats 20000000 in
theorem act_any (hC:CW w S B bw bs g sg net Fs h cf K ws gh) (hcal:g.calm=false) (hB:B≤w.heap.size) (hKb:K+16≤60000) (hnl:ws.net.length≤200) (kind nd n draw:Int) (dA:Option Addr) (dn dc:Nat) (twice:Bool) (ds:List (BR×List Int)) (SM:Nat→Prop) (hSM:∀ j,SM j→j<B) (hD:DataS w SM dA ds) (hdn:dn=ds.length) (h5:kind≠5) (h6:kind≠6) (h8:kind≠8) :
  Calls Tryz.prog 10 #[.pointer (some ⟨bw,0,none⟩),.agg #[.int .i64 kind,.int .i64 nd,.int .i64 n,.int .i64 draw,.slice dA dn dc,.bool twice]] w fun e w'=>e=.returned (.bool true)∧∃ ws' gh',ActTo w w' B bw bs cf K (g.sA,g.sc) ws' gh':=by
 have hn:=nth_lt hC.cok nd
 have hn2:=nth_lt hC.cok n
 have hn5:=hC.cok.n
 have HC:=ld hC
 have HCAL:=ld hcal
 have HSM:=ld hSM
 have HD:=ld hD
 have HDN:=ld hdn
 have HFB:Hid (∀ j,SM j→∀ k,k<cf.n→¬ Fs k j):=ld fun j hj k hk hf=>by have:=hC.base.2 k hk j hf;have:=hSM j hj;omega
 have HMB:Hid (∀ j,SM j→¬ Fr g bw bs Fs cf.n j):=ld fun j hj hf=>by
  rcases hf with hf | ⟨k,hk,hf⟩
  ·have:=hC.base.1 j hf;have:=hSM j hj;omega
  ·have:=hC.base.2 k hk j hf;have:=hSM j hj;omega
 have HOK:Hid (∀ k,K≤k→k≤60000→True):=ld fun _ _ _=>trivial
 clear hC hcal hSM hD hdn
 go_enter Tryz.func10,Tryz.ntmps10
 go_wp2_with (fail)
 have hb1:=below_one w (.cells #[.int .i64 kind,.int .i64 nd,.int .i64 n,.int .i64 draw,.slice dA dn dc,.bool twice] 31)
 have hz1:=World.alloc_at w (.cells #[.int .i64 kind,.int .i64 nd,.int .i64 n,.int .i64 draw,.slice dA dn dc,.bool twice] 31)
 have HC1:=ld (HC.out.below hb1)
 have HSE:=ld (seat_any HC1.out nd)
 obtain ⟨z,hz⟩:∃ z,z=w.heap.size:=⟨_,rfl⟩
 rw [←hz] at hz1
 rw [←hz]
 have HZ:=ld hz
 clear hz
 generalize w.alloc (.cells #[.int .i64 kind,.int .i64 nd,.int .i64 n,.int .i64 draw,.slice dA dn dc,.bool twice] 31)=W1 at hb1 hz1 HC1 HSE ⊢
 have HB1:=ld hb1
 have HZ1:=ld hz1
 have hlz:z<W1.heap.size:=block_lt hz1
 clear hb1 hz1
 refine HSE.out.mono ?_
 rintro e w2 ⟨b,rfl,hb,n2,rfl⟩
 have HC2:=ld (HC1.out.drewN n2)
 have HZ2:Hid ((W1.drewN n2).heap[z]?=some (.cells #[.int .i64 kind,.int .i64 nd,.int .i64 n,.int .i64 draw,.slice dA dn dc,.bool twice] 31 (0,0))):=ld HZ1.out
 have HB2:=ld (below_drewN' HB1.out n2)
 clear HSE HC1 HZ1 HB1 hlz
 generalize W1.drewN n2=W2 at HC2 HZ2 HB2 ⊢
 have hBW:B≤W2.heap.size:=Nat.le_trans hB HB2.out.size
 have hBB:Hid (∀ w',Chg (Fr g bw bs Fs cf.n) W2 w'→Below B w w'):=ld fun w' hc=>(Below.mono HB2.out hB).trans (HC2.out.chgB hc hBW)
 have HZF:Hid (¬ Fr g bw bs Fs cf.n z):=ld (HC.out.fresh (Nat.le_of_eq HZ.out.symm))
 obtain ⟨i,hid⟩:∃ i,i=nth cf nd:=⟨_,rfl⟩
 rw [←hid] at hb hn
 have hi:i<cf.n:=hn.1
 clear hn hid
 have hlz:z<W2.heap.size:=block_lt HZ2.out
 have z0:W2.cell? ⟨z,0,none⟩=some (.int .i64 kind):=cell_block HZ2.out 0 _ rfl
 have z2:W2.cell? ⟨z,2,none⟩=some (.int .i64 n):=cell_block HZ2.out 2 _ rfl
 have z3:W2.cell? ⟨z,3,none⟩=some (.int .i64 draw):=cell_block HZ2.out 3 _ rfl
 have z4:W2.cell? ⟨z,4,none⟩=some (.slice dA dn dc):=cell_block HZ2.out 4 _ rfl
 have z5:W2.cell? ⟨z,5,none⟩=some (.bool twice):=cell_block HZ2.out 5 _ rfl
 have hnl2:ws.net.length≤900000000:=by omega
 by_cases k1:kind=1
 ·subst k1
  go_wp2_with (go_at_call 15;refine (cw_tick HC2.out HCAL.out hi hb hBW (by omega) hnl2 _ _ _ _ _ _ _ _ _ _ _ _ _ _ _).mono ?_;rintro e w4 ⟨rfl,gh4,hx4,hext4,hc4⟩;have HX4:=ld hx4;have HC4:=ld hc4;clear hx4 hext4 hc4)
  go_ret
  exact ⟨rfl,_,gh4,HX4.out.more (by omega) (by omega),capd_len _,hBB.out _ HC4.out⟩
 by_cases k2:kind=2
 ·subst k2
  obtain ⟨nA,nc,c7⟩:=HC2.out.netCell
  have hlw:bw<W2.heap.size:=block_lt HC2.out.at_.wb
  by_cases hne:ws.net.length=0
  ·have hneb:((ws.net.length:Int)==0)=true:=by rw [hne];rfl
   clear hne
   go_wp2_with (fail)
   go_ret
   exact ⟨rfl,ws,gh,by rw [←HCAL.out];exact HC2.out.x.more (by omega) (by omega),hnl,hBB.out _ Chg.refl⟩
  ·have hneb:((ws.net.length:Int)==0)=false:=by simpa using hne
   have hw1:IntKind.i64.wrap ((ws.net.length:Int)-1)=(ws.net.length:Int)-1:=IntWalk.i64_in _ (by omega)
   have hwn:=wholeV_in n (lo:=0) (hi:=(ws.net.length:Int)-1) (by omega)
   obtain ⟨k,hk⟩:∃ k:Nat,wholeV n 0 ((ws.net.length:Int)-1)=k:=⟨(wholeV n 0 ((ws.net.length:Int)-1)).toNat,by omega⟩
   have HW:Hid (∀ m,Calls Tryz.prog 24 #[.int .i64 n,.int .i64 0,.int .i64 ((ws.net.length:Int)-1)] (W2.drewN m) fun e w'=>e=.returned (.int .i64 (k:Int))∧w'=W2.drewN m):=ld fun m=>by
    have:=whole_any n 0 ((ws.net.length:Int)-1) (W2.drewN m) (by decide) (by omega) (by omega)
    rw [hk] at this
    exact this
   rw [hk] at hwn
   have hkl:k<ws.net.length:=by omega
   clear hk hwn hne
   go_upto_region 10 with (fail)
   go_quiet (first | (go_at_call 24;refine Calls.quiet_of_same (HW.out _)))
   generalize hW3:W2.drewN _=W3
   have HC3:=ld (show CW W3 S B bw bs g sg net Fs h cf K ws gh from by rw [←hW3];exact HC2.out.drewN _)
   have HZ3:Hid (W3.heap[z]?=some (.cells #[.int .i64 2,.int .i64 nd,.int .i64 n,.int .i64 draw,.slice dA dn dc,.bool twice] 31 (0,0))):=ld (by rw [←hW3];exact HZ2.out)
   have hBW3:B≤W3.heap.size:=by rw [←hW3];exact hBW
   have hBB3:Hid (∀ w',Chg (Fr g bw bs Fs cf.n) W3 w'→Below B w w'):=ld fun w' hc=>hBB.out w' ⟨by rw [hc.os,←hW3];rfl,by rw [hc.tape,←hW3];rfl,by rw [hc.output,←hW3];rfl,by have:=hc.size;rw [←hW3] at this;exact this,fun j hj hf=>by have:=hc.block j (by rw [←hW3];exact hj) hf;rw [this,←hW3];rfl⟩
   clear hW3 HW hw1 z0 z2 z3 z4 z5 hlz c7 hlw
   have hlz:z<W3.heap.size:=block_lt HZ3.out
   have z0:W3.cell? ⟨z,0,none⟩=some (.int .i64 2):=cell_block HZ3.out 0 _ rfl
   have z3:W3.cell? ⟨z,3,none⟩=some (.int .i64 draw):=cell_block HZ3.out 3 _ rfl
   have z5:W3.cell? ⟨z,5,none⟩=some (.bool twice):=cell_block HZ3.out 5 _ rfl
   obtain ⟨m,hm⟩:∃ m,ws.net[k]?=some m:=⟨_,List.getElem?_eq_getElem hkl⟩
   have HM:=ld hm
   clear hm
   go_wp2_with (go_at_call 25;refine (arrive_any HC3.out HCAL.out hBW3 (by omega) hnl2 k m HM.out draw twice _ rfl).mono ?_;rintro e w4 ⟨rfl,gh4,hx4,hext4,hok4,hc4⟩;have HX4:=ld hx4;have HC4:=ld hc4;clear hx4 hext4 hok4 hc4)
   go_ret
   exact ⟨rfl,_,gh4,HX4.out.x.more (by omega) (by omega),capd_len _,hBB3.out _ HC4.out⟩
 by_cases k3:kind=3
 ·subst k3
  obtain ⟨nA,nc,c7⟩:=HC2.out.netCell
  have hlw:bw<W2.heap.size:=block_lt HC2.out.at_.wb
  by_cases hne:ws.net.length=0
  ·have hneb:((ws.net.length:Int)==0)=true:=by rw [hne];rfl
   clear hne
   go_wp2_with (fail)
   go_ret
   exact ⟨rfl,ws,gh,by rw [←HCAL.out];exact HC2.out.x.more (by omega) (by omega),hnl,hBB.out _ Chg.refl⟩
  ·have hneb:((ws.net.length:Int)==0)=false:=by simpa using hne
   have hw1:IntKind.i64.wrap ((ws.net.length:Int)-1)=(ws.net.length:Int)-1:=IntWalk.i64_in _ (by omega)
   have hwn:=wholeV_in n (lo:=0) (hi:=(ws.net.length:Int)-1) (by omega)
   obtain ⟨k,hk⟩:∃ k:Nat,wholeV n 0 ((ws.net.length:Int)-1)=k:=⟨(wholeV n 0 ((ws.net.length:Int)-1)).toNat,by omega⟩
   have HW:Hid (∀ m,Calls Tryz.prog 24 #[.int .i64 n,.int .i64 0,.int .i64 ((ws.net.length:Int)-1)] (W2.drewN m) fun e w'=>e=.returned (.int .i64 (k:Int))∧w'=W2.drewN m):=ld fun m=>by
    have:=whole_any n 0 ((ws.net.length:Int)-1) (W2.drewN m) (by decide) (by omega) (by omega)
    rw [hk] at this
    exact this
   rw [hk] at hwn
   have hkl:k<ws.net.length:=by omega
   clear hk hwn hne
   go_upto_region 10 with (fail)
   go_quiet (first | (go_at_call 24;refine Calls.quiet_of_same (HW.out _)))
   generalize hW3:W2.drewN _=W3
   have HC3:=ld (show CW W3 S B bw bs g sg net Fs h cf K ws gh from by rw [←hW3];exact HC2.out.drewN _)
   have HZ3:Hid (W3.heap[z]?=some (.cells #[.int .i64 3,.int .i64 nd,.int .i64 n,.int .i64 draw,.slice dA dn dc,.bool twice] 31 (0,0))):=ld (by rw [←hW3];exact HZ2.out)
   have hBW3:B≤W3.heap.size:=by rw [←hW3];exact hBW
   have hBB3:Hid (∀ w',Chg (Fr g bw bs Fs cf.n) W3 w'→Below B w w'):=ld fun w' hc=>hBB.out w' ⟨by rw [hc.os,←hW3];rfl,by rw [hc.tape,←hW3];rfl,by rw [hc.output,←hW3];rfl,by have:=hc.size;rw [←hW3] at this;exact this,fun j hj hf=>by have:=hc.block j (by rw [←hW3];exact hj) hf;rw [this,←hW3];rfl⟩
   clear hW3 HW hw1 z0 z2 z3 z4 z5 hlz c7 hlw
   have hlz:z<W3.heap.size:=block_lt HZ3.out
   have z0:W3.cell? ⟨z,0,none⟩=some (.int .i64 3):=cell_block HZ3.out 0 _ rfl
   have z3:W3.cell? ⟨z,3,none⟩=some (.int .i64 draw):=cell_block HZ3.out 3 _ rfl
   have z5:W3.cell? ⟨z,5,none⟩=some (.bool twice):=cell_block HZ3.out 5 _ rfl
   have hnn2:net.length=ws.net.length:=HC3.out.netl
   obtain ⟨hrow,hnn,hnc⟩:=HC3.out.at_.netO.rowS (S:=fun j=>j<W3.heap.size) len_M (fun j hj=>HC3.out.at_.netO.lt j hj)
   rw [List.length_map,hnn2] at hnn
   obtain ⟨q,hq⟩:∃ q,net[k]?=some q:=⟨_,List.getElem?_eq_getElem (by omega)⟩
   obtain ⟨gN,off,hnA,hgN,_⟩:=RowS.at_ hrow (show (net.map (·.1))[k]?=some q.1 by rw [List.getElem?_map,hq];rfl)
   rw [hnA] at hrow
   have hR1:Row encM 10 W3 W3.heap.size (some ⟨gN,off,none⟩) (net.map (·.1)):=hrow.row fun j hj=>hj
   have HNA:=ld (And.intro hnA hnn)
   rw [hnn] at hnc
   have c7:W3.cell? ⟨bw,7,none⟩=some (.slice (some ⟨gN,off,none⟩) ws.net.length g.nc):=by
    have:=vw7 HC3.out.at_.wb
    rwa [hnA,hnn] at this
   have hml:(net.map (·.1)).length=ws.net.length:=by rw [List.length_map,hnn2]
   have hlw:bw<W3.heap.size:=block_lt HC3.out.at_.wb
   have hfw:=frozen_block HC3.out.at_.wb
   have hnn3:net.length≤200:=by omega
   clear hrow hnn hnA hq hgN hnn2
   go_upto_region 15 with (first
    | (refine wp_cut _ encM 10 rfl (.tmp 62) none (some (.tmp 63)) 38 rfl 59 Tryz.underlying38 size59 W3.heap.size (some ⟨gN,off,none⟩) ws.net.length g.nc rfl (net.map (·.1)) hml.symm hR1 0 k rfl (fun _=>rfl) rfl (fun h=>by cases h) (by omega) (by omega) hnc ?_;intro A1 hr1;rw [List.drop_zero] at hr1)
    | (at_builtin;refine wp_app _ encM 10 rfl _ _ 38 rfl W3.heap.size 59 96 Tryz.underlying38 info59 (by omega) len_M one_M (.slice none 0 0) [] rfl Own.nil W3.heap.size A1 _ _ ((net.map (·.1)).take k) (by rw [List.length_take,hml];omega) rfl hr1 (by simp;omega) (by simp;omega) (Nat.le_refl _) ?_;intro v2 w2 hown2 hg2 hat2 _)
    | fail)
   rw [List.nil_append] at hown2
   obtain ⟨A2,k2,rfl⟩:=hown2.form
   have hb2:Below W3.heap.size W3 w2:=(Below.refl _ _).grown hg2 (Nat.le_refl _) (fun j hj=>by cases hj)
   have HB2':=ld hb2
   have HO2:=ld hown2
   have hl2:((net.map (·.1)).take k).length=k:=by rw [List.length_take,hml];omega
   simp only [hl2] at HO2 ⊢
   have hR2:Row encM 10 w2 W3.heap.size (some ⟨gN,off,none⟩) (net.map (·.1)):=hR1.below hb2
   have HC4:=ld (HC3.out.below hb2)
   clear c7 hR1 hown2 hg2 hat2 hb2 hr1 hlw hfw
   have hlw:bw<w2.heap.size:=block_lt HC4.out.at_.wb
   have hfw:=frozen_block HC4.out.at_.wb
   have c7:w2.cell? ⟨bw,7,none⟩=some (.slice (some ⟨gN,off,none⟩) ws.net.length g.nc):=by
    have:=vw7 HC4.out.at_.wb
    rwa [HNA.out.1,HNA.out.2] at this
   have q1:IntKind.i64.wrap ((k:Int)+1)=(k:Int)+1:=by rw [IntWalk.i64_in _ (by omega)]
   have hkn:(k:Int)<(ws.net.length:Int):=by omega
   have hR3:=hR2.cut (k:=k+1) (n:=ws.net.length) hkl hnc
   rw [List.take_of_length_le (Nat.le_of_eq hml)] at hR3
   have hl4:((net.map (·.1)).take k++(net.map (·.1)).drop (k+1))=(net.eraseIdx k).map (·.1):=by rw [map_eraseIdx',eraseIdx_split]
   by_cases hnk:g.nc=k+1
   ·rw [if_pos hnk] at hR3
    go_wp2_with (first
     | (at_builtin;refine wp_app _ encM 10 rfl _ _ 38 rfl W3.heap.size 59 96 Tryz.underlying38 info59 (by omega) len_M one_M (.slice A2 k k2) ((net.map (·.1)).take k) rfl HO2.out W3.heap.size _ _ _ ((net.map (·.1)).drop (k+1)) (by rw [List.length_drop,hml]) rfl hR3 (by simp;omega) (by simp;omega) HB2'.out.size ?_;intro v4 w4 hown4 hg4 hat4 _;rw [hl4] at hown4;obtain ⟨A4,k4,rfl⟩:=hown4.form;have hb4:Below W3.heap.size W3 w4:=HB2'.out.grown hg4 HB2'.out.size (fun j hj=>(HO2.out.lt j hj).1);have hC4:=HC3.out.below hb4;have hlw4:bw<w4.heap.size:=block_lt hC4.at_.wb;have hfw4:=frozen_block hC4.at_.wb;have c74:=vw7 hC4.at_.wb)
     | fail)
    go_ret
    obtain ⟨hx1,hx2,hx3⟩:=CW.renet (net':=net.eraseIdx k) (nn:=ws.net.eraseIdx k) HC3.out hBW3 hb4 hown4.ownO (fun j hj=>(hown4.lt j hj).1) (fun x hx=>mem_eraseIdx' hx) (by rw [map_eraseIdx',map_eraseIdx',HC.out.net]) (fun x hx=>mem_eraseIdx' hx)
    simp only [List.length_map] at hx1 hx2 hx3
    have hcx:=hx1.x
    simp only [HCAL.out] at hcx
    exact ⟨rfl,_,gh,hcx.more (by omega) (by omega),Nat.le_trans (List.length_eraseIdx_le _ _) hnl,hBB3.out _ hx3⟩
   ·rw [if_neg hnk,Option.map_some,Addr.add_lit] at hR3
    go_wp2_with (first
     | (at_builtin;refine wp_app _ encM 10 rfl _ _ 38 rfl W3.heap.size 59 96 Tryz.underlying38 info59 (by omega) len_M one_M (.slice A2 k k2) ((net.map (·.1)).take k) rfl HO2.out W3.heap.size _ _ _ ((net.map (·.1)).drop (k+1)) (by rw [List.length_drop,hml]) rfl hR3 (by simp;omega) (by simp;omega) HB2'.out.size ?_;intro v4 w4 hown4 hg4 hat4 _;rw [hl4] at hown4;obtain ⟨A4,k4,rfl⟩:=hown4.form;have hb4:Below W3.heap.size W3 w4:=HB2'.out.grown hg4 HB2'.out.size (fun j hj=>(HO2.out.lt j hj).1);have hC4:=HC3.out.below hb4;have hlw4:bw<w4.heap.size:=block_lt hC4.at_.wb;have hfw4:=frozen_block hC4.at_.wb;have c74:=vw7 hC4.at_.wb)
     | fail)
    go_ret
    obtain ⟨hx1,hx2,hx3⟩:=CW.renet (net':=net.eraseIdx k) (nn:=ws.net.eraseIdx k) HC3.out hBW3 hb4 hown4.ownO (fun j hj=>(hown4.lt j hj).1) (fun x hx=>mem_eraseIdx' hx) (by rw [map_eraseIdx',map_eraseIdx',HC.out.net]) (fun x hx=>mem_eraseIdx' hx)
    simp only [List.length_map] at hx1 hx2 hx3
    have hcx:=hx1.x
    simp only [HCAL.out] at hcx
    exact ⟨rfl,_,gh,hcx.more (by omega) (by omega),Nat.le_trans (List.length_eraseIdx_le _ _) hnl,hBB3.out _ hx3⟩
 by_cases k4:kind=4
 ·subst k4
  have HDD:Hid (∀ W,Chg (Fr g bw bs Fs cf.n) w W→DataS W SM dA ds):=ld fun W hW=>HD.out.keep fun j hj=>hW.keep (Nat.lt_of_lt_of_le (HSM.out j hj) hB) (HMB.out j hj)
  have hchg:Chg (Fr g bw bs Fs cf.n) w W2:=Chg.ofBelow HB2.out
  by_cases hdl:1≤dn∧dn≤16
  ·by_cases hr4:(ws.nd (i+1)).role=4
   ·have hp4:(Rf.setN ws.nd (i+1) (Rf.propose cf (ds.map (·.2)) (ws.nd (i+1))).1 (i+1)).role=4:=by rw [Rf.setN_at];exact hr4
    have HP4:=ld hp4
    have hdl1:(1:Int)≤(dn:Int):=by omega
    have hdl2:(dn:Int)≤16:=by omega
    have HDL:=ld hdl
    clear hp4 hdl
    go_upto_region 18 with (go_at_call 15;refine (cw_propose HC2.out HCAL.out hi hb hBW hnl2 hr4 SM dA dn dc ds (fun j hj=>⟨Nat.lt_of_lt_of_le (HSM.out j hj) hBW,HFB.out j hj i hi⟩) (HDD.out _ hchg) HDN.out (by rw [←HDN.out];exact HDL.out.1) (by rw [←HDN.out];exact HDL.out.2) (by rw [←HDN.out];have:=HDL.out.2;omega) _ _ _ _ _ _ _ _ _ _ _ _ _ _).mono ?_;rintro e w4 ⟨rfl,gh4,hx4,hext4,hok4,hc4⟩;have HX4:=ld hx4;have HC4:=ld hc4;clear hx4 hext4 hok4 hc4)
    have hr:=HX4.out.role hi hb
    rw [HP4.out] at hr
    have d10:=hr.1
    have hlb:=hr.2
    have hz4:=(HC4.out.keep hlz HZF.out).trans HZ2.out
    have hlz4:z<w4.heap.size:=block_lt hz4
    have z4':w4.cell? ⟨z,4,none⟩=some (.slice dA dn dc):=cell_block hz4 4 _ rfl
    clear hr hz4
    go_wp2_with (fail)
    go_ret
    exact ⟨rfl,_,gh4,HX4.out.more (by have:=HDL.out.2;rw [HDN.out] at this;omega) (by omega),capd_len _,hBB.out _ HC4.out⟩
   ·have hr4b:(((ws.nd (i+1)).role:Int)==4)=false:=by simpa using (by omega:¬ ((ws.nd (i+1)).role:Int)=4)
    have HR4:=ld (And.intro hdl hr4)
    have hdl1:(1:Int)≤(dn:Int):=by omega
    have hdl2:(dn:Int)≤16:=by omega
    clear hr4 hdl
    go_upto_region 18 with (go_at_call 15;refine (cw_err HC2.out HCAL.out hi hb hBW 162 (by decide) 3 3 rfl 74 (by decide) rfl (fun _ _=>by simp [go_sem]) _ _ _ _ _ _ _ _ _ _ _ (.slice dA dn dc) _ _ _ (fun W F0 hN=>propose_no hN _ _ _ _ _ _ _ _ _ _ _ _ _ _ _ dA dn dc 162 (.inr ⟨HR4.out.1,HR4.out.2,rfl⟩))).mono ?_;rintro e w4 ⟨rfl,hx4,hc4⟩;have HX4:=ld hx4;have HC4:=ld hc4;clear hx4 hc4)
    have hr:=HX4.out.role hi hb
    have d10:=hr.1
    have hlb:=hr.2
    have hz4:=(HC4.out.keep hlz HZF.out).trans HZ2.out
    have hlz4:z<w4.heap.size:=block_lt hz4
    have z4':w4.cell? ⟨z,4,none⟩=some (.slice dA dn dc):=cell_block hz4 4 _ rfl
    clear hr hz4
    go_wp2_with (fail)
    go_ret
    exact ⟨rfl,ws,gh,HX4.out.more (by omega) (by omega),hnl,hBB.out _ HC4.out⟩
  ·have HR4:=ld hdl
   have hcase:(dn=0)∨(16<dn):=by omega
   clear hdl
   rcases hcase with hd0 | hd0
   ·have hdl1:¬ ((1:Int)≤(dn:Int)):=by omega
    have hr4c:(((ws.nd (i+1)).role:Int)==4)=true∨(((ws.nd (i+1)).role:Int)==4)=false:=by cases (((ws.nd (i+1)).role:Int)==4) <;> simp
    clear hd0
    go_upto_region 18 with (go_at_call 15;refine (cw_err HC2.out HCAL.out hi hb hBW 1 (by decide) 3 3 rfl 74 (by decide) rfl (fun _ _=>by simp [go_sem]) _ _ _ _ _ _ _ _ _ _ _ (.slice dA dn dc) _ _ _ (fun W F0 hN=>propose_no hN _ _ _ _ _ _ _ _ _ _ _ _ _ _ _ dA dn dc 1 (.inl ⟨HR4.out,rfl⟩))).mono ?_;rintro e w4 ⟨rfl,hx4,hc4⟩;have HX4:=ld hx4;have HC4:=ld hc4;clear hx4 hc4)
    have hr:=HX4.out.role hi hb
    have d10:=hr.1
    have hlb:=hr.2
    have hz4:=(HC4.out.keep hlz HZF.out).trans HZ2.out
    have hlz4:z<w4.heap.size:=block_lt hz4
    have z4':w4.cell? ⟨z,4,none⟩=some (.slice dA dn dc):=cell_block hz4 4 _ rfl
    clear hr hz4
    rcases hr4c with hr4b | hr4b
    ·go_wp2_with (fail)
     go_ret
     exact ⟨rfl,ws,gh,HX4.out.more (by omega) (by omega),hnl,hBB.out _ HC4.out⟩
    ·go_wp2_with (fail)
     go_ret
     exact ⟨rfl,ws,gh,HX4.out.more (by omega) (by omega),hnl,hBB.out _ HC4.out⟩
   ·have hdl1:(1:Int)≤(dn:Int):=by omega
    have hdl2:¬ ((dn:Int)≤16):=by omega
    have hr4c:(((ws.nd (i+1)).role:Int)==4)=true∨(((ws.nd (i+1)).role:Int)==4)=false:=by cases (((ws.nd (i+1)).role:Int)==4) <;> simp
    clear hd0
    go_upto_region 18 with (go_at_call 15;refine (cw_err HC2.out HCAL.out hi hb hBW 1 (by decide) 3 3 rfl 74 (by decide) rfl (fun _ _=>by simp [go_sem]) _ _ _ _ _ _ _ _ _ _ _ (.slice dA dn dc) _ _ _ (fun W F0 hN=>propose_no hN _ _ _ _ _ _ _ _ _ _ _ _ _ _ _ dA dn dc 1 (.inl ⟨HR4.out,rfl⟩))).mono ?_;rintro e w4 ⟨rfl,hx4,hc4⟩;have HX4:=ld hx4;have HC4:=ld hc4;clear hx4 hc4)
    have hr:=HX4.out.role hi hb
    have d10:=hr.1
    have hlb:=hr.2
    have hz4:=(HC4.out.keep hlz HZF.out).trans HZ2.out
    have hlz4:z<w4.heap.size:=block_lt hz4
    have z4':w4.cell? ⟨z,4,none⟩=some (.slice dA dn dc):=cell_block hz4 4 _ rfl
    clear hr hz4
    rcases hr4c with hr4b | hr4b
    ·go_wp2_with (fail)
     go_ret
     exact ⟨rfl,ws,gh,HX4.out.more (by omega) (by omega),hnl,hBB.out _ HC4.out⟩
    ·go_wp2_with (fail)
     go_ret
     exact ⟨rfl,ws,gh,HX4.out.more (by omega) (by omega),hnl,hBB.out _ HC4.out⟩
 by_cases k7:kind=7
 ·subst k7
  go_wp2_with (go_at_call 19;refine (crash_any HC2.out HCAL.out hi hb n draw).mono ?_;rintro e w4 ⟨rfl,k,hx4,hc4⟩;have HX4:=ld hx4;have HC4:=ld hc4;clear hx4 hc4)
  go_ret
  exact ⟨rfl,_,gh,HX4.out.more (by omega) (by omega),hnl,hBB.out _ HC4.out⟩
 by_cases k9:kind=9
 ·subst k9
  obtain ⟨nA,nc,c7⟩:=HC2.out.netCell
  have hlw:bw<W2.heap.size:=block_lt HC2.out.at_.wb
  go_wp2_with (fail)
  clear c7 hlw
  go_loopw [6,12] (fun okv sl wr=>∃ (k:Nat) (wk:Rf.Wd) (ghk:Rf.Gh),okv=.bool true∧sl=.int .i64 k∧k≤ws.net.length∧CWf (·≠z) wr B bw bs cf K false (g.sA,g.sc) wk ghk∧wk.net.length≤200∧Below B w wr∧Hid (wr.heap[z]?=some (.cells #[.int .i64 9,.int .i64 nd,.int .i64 n,.int .i64 draw,.slice dA dn dc,.bool twice] 31 (0,0)))) (fun _ sl _=>ws.net.length-(intOf sl).toNat)
  case atStart=>exact ⟨0,ws,gh,rfl,rfl,Nat.zero_le _,⟨_,_,_,_,_,_,HC2.out,⟨HCAL.out,rfl⟩,fun j hj e=>HZF.out (e▸hj)⟩,hnl,hBB.out _ Chg.refl,HZ2⟩
  case round =>
   obtain ⟨k,wk,ghk,rfl,rfl,hkl,hxk,hnk,hbk,hzk⟩:=hrel
   have HXK:=ld hxk.x
   have HBK:=ld hbk
   obtain ⟨S2,g2,sg2,net2,Fs2,h2,hC2,⟨hcal2,hss2⟩,hzf2⟩:=hxk
   have HZF2:=ld hzf2
   have HCK:=ld hC2
   have HSS:=ld (And.intro hcal2 hss2)
   clear hbk hC2 hcal2 hss2 hzf2 z0 z2 z3 z4 z5 hlz
   obtain ⟨nA,nc,c7⟩:=HCK.out.netCell
   have hlw:bw<wr.heap.size:=block_lt HCK.out.at_.wb
   have hlz:z<wr.heap.size:=block_lt hzk.out
   have z3:wr.cell? ⟨z,3,none⟩=some (.int .i64 draw):=cell_block hzk.out 3 _ rfl
   have hfin:CWx wr B bw bs cf (K+16) false (g.sA,g.sc) wk ghk:=HXK.out.more (by omega) (by omega)
   have HFIN:=ld hfin
   clear hfin
   by_cases hlt:k<ws.net.length
   ·have hlt':(k:Int)<(ws.net.length:Int):=by omega
    cases hnet:wk.net with
    | nil =>
     rw [hnet,List.length_nil] at c7
     have HN:=ld hnet
     clear hnet
     go_wp2_with (fail)
     go_ret
     exact ⟨rfl,wk,ghk,HFIN.out,hnk,HBK.out⟩
    | cons m r =>
     have hl1:wk.net.length=r.length+1:=by rw [hnet];rfl
     rw [hl1] at c7
     have hl0:(0:Int)<((r.length+1:Nat):Int):=by omega
     have hl00:(0:Int)<(r.length:Int)+1:=by omega
     have hl2:0<r.length+1:=by omega
     have HN:=ld hnet
     have HNK:=ld hnk
     have hBr:B≤wr.heap.size:=Nat.le_trans hB HBK.out.size
     have hnk9:wk.net.length≤900000000:=by omega
     clear hnet hl1 hnk
     go_wp2_with (go_at_call 25;refine (arrive_any HCK.out HSS.out.1 hBr (by omega) hnk9 0 m (by rw [HN.out];rfl) _ false r (by rw [HN.out];rfl)).mono ?_;rintro e w4 ⟨rfl,gh4,hx4,hext4,hok4,hc4⟩;have HX4:=ld hx4;have HC4:=ld hc4;clear hx4 hext4 hok4 hc4)
     go_roundw
     case rel =>
      refine ⟨k+1,_,gh4,rfl,by go_num,by omega,by rw [←HSS.out.2];exact HX4.out.mono (fun j hj=>hj.elim (HZF2.out j) fun h1 e=>by omega),capd_len _,HBK.out.trans (HCK.out.chgB HC4.out hBr),ld ((HC4.out.keep hlz (fun hf=>?_)).trans hzk.out)⟩
      exact HZF2.out z hf rfl
     case measure=>first | (simp [intOf];done) | (simp [intOf];omega)
   ·have hlt':¬ ((k:Int)<(ws.net.length:Int)):=by omega
    go_wp2_with (fail)
    go_ret
    exact ⟨rfl,wk,ghk,HFIN.out,hnk,HBK.out⟩
 by_cases k10:kind=10
 ·subst k10
  have HSE2:=ld (seat_any HC2.out n)
  obtain ⟨j,hjd⟩:∃ j,j=nth cf n:=⟨_,rfl⟩
  rw [←hjd] at HSE2 hn2
  have hj:j<cf.n:=hn2.1
  clear hn2 hjd
  go_wp2_with (fail)
  refine HSE2.out.mono ?_
  rintro e w3 ⟨b2,rfl,hb2,n3,rfl⟩
  have hs2:=(HC2.out.drewN n3).at_.seat j b2 hb2.out
  have d0:=vs0 hs2.1.blk
  rw [hs2.2] at d0
  have hlb2:=block_lt hs2.1.blk
  have HC3:=ld (HC2.out.drewN n3)
  have HCW3:Hid (∀ w',Chg (Fr g bw bs Fs cf.n) (W2.drewN n3) w'→Below B w w'):=ld fun w' hc=>hBB.out w' ⟨hc.os,hc.tape,hc.output,hc.size,hc.block⟩
  obtain ⟨qj,hqj⟩:∃ qj:Nat,qj=j+1:=⟨_,rfl⟩
  rw [←hqj] at d0
  have HQJ:=ld hqj
  clear hs2 hqj
  by_cases hji:j=i
  ·have hio:isOther cf (ws.nd (i+1)) qj=false:=by unfold isOther;rw [decide_eq_false_iff_not,HC.out.ok.inv.ids (i+1)];have:=HQJ.out;omega
   have hf:=HC.out.fits hi
   go_wp2_with (go_at_call 15;refine (cw_err HC3.out HCAL.out hi hb hBW 161 (by decide) 7 7 rfl 78 (by decide) rfl (fun _ _=>by simp [go_sem]) _ _ _ _ _ _ _ _ _ _ _ _ (.int .i64 (qj:Int)) _ _ (fun W F0 hN=>far_no hN hf _ _ _ _ _ _ _ _ _ _ _ _ _ _ _ qj hio)).mono ?_;rintro e w4 ⟨rfl,hx4,hc4⟩;have HX4:=ld hx4;have HC4:=ld hc4;clear hx4 hc4)
   go_ret
   exact ⟨rfl,ws,gh,HX4.out.more (by omega) (by omega),hnl,HCW3.out _ HC4.out⟩
  ·have hio:isOther cf (ws.nd (i+1)) qj=true:=by unfold isOther;rw [decide_eq_true_iff,HC.out.ok.inv.ids (i+1)];have:=HQJ.out;omega
   go_wp2_with (go_at_call 15;refine (cw_far HC3.out HCAL.out hi hb hBW (by omega) hnl2 qj hio _ _ _ _ _ _ _ _ _ _ _ _ _ _).mono ?_;rintro e w4 ⟨rfl,gh4,hx4,hext4,hc4⟩;have HX4:=ld hx4;have HC4:=ld hc4;clear hx4 hext4 hc4)
   go_ret
   exact ⟨rfl,_,gh4,HX4.out.more (by omega) (by omega),capd_len _,HCW3.out _ HC4.out⟩
 ·have q1:(kind==1)=false:=by simpa using k1
  have q2:(kind==2)=false:=by simpa using k2
  have q3:(kind==3)=false:=by simpa using k3
  have q4:(kind==4)=false:=by simpa using k4
  have q5:(kind==5)=false:=by simpa using h5
  have q6:(kind==6)=false:=by simpa using h6
  have q7:(kind==7)=false:=by simpa using k7
  have q8:(kind==8)=false:=by simpa using h8
  have q9:(kind==9)=false:=by simpa using k9
  have q10:(kind==10)=false:=by simpa using k10
  clear k1 k2 k3 k4 k7 k9 k10 h5 h6 h8
  go_wp2_with (fail)
  go_ret
  exact ⟨rfl,ws,gh,by rw [←HCAL.out];exact HC2.out.x.more (by omega) (by omega),hnl,hBB.out _ Chg.refl⟩
end
structure AR where
 kind:Int
 nd:Int
 n:Int
 draw:Int
 A:Option Addr
 dn:Nat
 dc:Nat
 twice:Bool
def encA (x:AR):List Value:=[.int .i64 x.kind,.int .i64 x.nd,.int .i64 x.n,.int .i64 x.draw,.slice x.A x.dn x.dc,.bool x.twice]
structure ActS (w:World) (S:Nat→Prop) (A:Option Addr) (xs:List (AR×List (BR×List Int))):Prop where
 row:RowS encA 6 w S A (xs.map (·.1))
 dat:∀ p∈xs,DataS w S p.1.A p.2∧p.1.dn=p.2.length
theorem ActS.keep {w w':World} {S:Nat→Prop} {A:Option Addr} {xs:List (AR×List (BR×List Int))} (h:ActS w S A xs) (hk:∀ j,S j→w'.heap[j]?=w.heap[j]?):ActS w' S A xs:=⟨h.row.keep hk,fun p hp=>⟨(h.dat p hp).1.keep hk,(h.dat p hp).2⟩⟩
set_option maxRecDepth 100000 in
set_option maxHeartbeats 4000000 in
theorem calm_true (nd a b c d:Int) (A:Option Addr) (cp:Nat) (xs:List (AR×List (BR×List Int))) (w:World) (hA:ActS w (·<w.heap.size) A xs) (hl:xs.length≤140737488351232) :
  Calls Tryz.prog 3 #[.int .i64 nd,.int .i64 a,.int .i64 b,.int .i64 c,.int .i64 d,.slice A xs.length cp] w fun e w'=>e=.returned (.bool true)∧Below w.heap.size w w':=by
 have HA:=ld hA
 obtain ⟨n,hn⟩:∃ n,n=xs.length:=⟨_,rfl⟩
 rw [←hn]
 rw [←hn] at hl
 have HN:=ld hn
 clear hA hn
 go_enter Tryz.func3,Tryz.ntmps3
 go_wp2_with (fail)
 refine (config_any nd a b c d w).mono ?_
 rintro e w1 ⟨cf,PA,pc,rfl,hown,hb1,hcf,hmo⟩
 have hr:=hown.rowS len_I
 have HB1:=ld hb1
 have HWD:=ld (world_any PA pc cf _ w1 hr (fun j hj=>hj.2) hcf)
 have HCF:=ld hcf
 clear hown hb1 hcf hmo hr
 go_wp2_with (fail)
 refine HWD.out.mono ?_
 rintro e w2 ⟨bw,bs,ss,rfl,hx,hb2⟩
 have HX2:=ld hx
 have HB2:=ld (HB1.out.trans (hb2.mono HB1.out.size))
 obtain ⟨B,hB⟩:∃ B,B=w1.heap.size:=⟨_,rfl⟩
 rw [←hB] at HX2
 have HBB:=ld hB
 have HB12:Hid (B≤w2.heap.size):=ld (by rw [hB];exact hb2.size)
 have HWB:Hid (w.heap.size≤B):=ld (by rw [hB];exact HB1.out.size)
 clear hx hb2 hB HWD HB1 HBB
 go_wp2_with (fail)
 go_loopw [14] (fun i wr=>∃ (k:Nat) (ws:Rf.Wd) (gh:Rf.Gh),i=.int .i64 k∧k≤500∧k≤n∧Hid (CWx wr B bw bs cf (16*k) false ss ws gh∧ws.net.length≤200∧Below w.heap.size w wr∧B≤wr.heap.size)) (fun i _=>(500-intOf i).toNat)
 case atStart=>exact ⟨0,_,_,rfl,Nat.zero_le _,Nat.zero_le _,ld ⟨HX2.out,Nat.zero_le _,HB2.out,HB12.out⟩⟩
 case round =>
  obtain ⟨k,ws,gh,rfl,hk5,hkn,HK⟩:=hrel
  clear HX2 HB2 HB12
  by_cases hlt:k<n∧k<500
  ·have hlt1:(k:Int)<(n:Int):=by omega
   have hlt2:(k:Int)<500:=by omega
   have hAS:=HA.out.keep (w':=wr) fun j hj=>HK.out.2.2.1.block j hj
   have hka:k<xs.length:=by rw [←HN.out];exact hlt.1
   obtain ⟨q,hq⟩:∃ q,xs[k]?=some q:=⟨_,List.getElem?_eq_getElem hka⟩
   obtain ⟨gA,off,hAA,hgA,hcl⟩:=RowS.at_ hAS.row (show (xs.map (·.1))[k]?=some q.1 by rw [List.getElem?_map,hq];rfl)
   have c0:wr.cell? ⟨gA,off+k*6,none⟩=some (.int .i64 q.1.kind):=hcl 0 _ rfl
   have c1:wr.cell? ⟨gA,off+k*6+1,none⟩=some (.int .i64 q.1.nd):=hcl 1 _ rfl
   have c2:wr.cell? ⟨gA,off+k*6+2,none⟩=some (.int .i64 q.1.n):=hcl 2 _ rfl
   have c3:wr.cell? ⟨gA,off+k*6+3,none⟩=some (.int .i64 q.1.draw):=hcl 3 _ rfl
   have c4:wr.cell? ⟨gA,off+k*6+4,none⟩=some (.slice q.1.A q.1.dn q.1.dc):=hcl 4 _ rfl
   have c5:wr.cell? ⟨gA,off+k*6+5,none⟩=some (.bool q.1.twice):=hcl 5 _ rfl
   have HQD:=ld (hAS.dat q (List.mem_of_getElem? hq))
   subst hAA
   have hkn':k<n:=hlt.1
   clear hAS hka hq hcl hlt
   obtain ⟨⟨kind,nd',n',draw,qA,qn,qc,tw⟩,ds⟩:=q
   simp only at c0 c1 c2 c3 c4 c5 HQD
   have HSK:Hid (∃ (ws2:Rf.Wd) (gh2:Rf.Gh),CWx wr B bw bs cf (16*(k+1)) false ss ws2 gh2∧ws2.net.length≤200∧Below w.heap.size w wr∧B≤wr.heap.size):=ld ⟨ws,gh,HK.out.1.more (by omega) (by omega),HK.out.2⟩
   by_cases k5:kind=5
   ·subst k5
    go_wp2_with (fail)
    go_roundw
    case rel=>obtain ⟨ws2,gh2,h2⟩:=HSK.out;exact ⟨k+1,ws2,gh2,by go_num,by omega,by omega,ld h2⟩
    case measure=>first | (simp [intOf];done) | (simp [intOf];omega)
   by_cases k8:kind=8
   ·subst k8
    go_wp2_with (fail)
    go_roundw
    case rel=>obtain ⟨ws2,gh2,h2⟩:=HSK.out;exact ⟨k+1,ws2,gh2,by go_num,by omega,by omega,ld h2⟩
    case measure=>first | (simp [intOf];done) | (simp [intOf];omega)
   by_cases k6:kind=6
   ·subst k6
    go_wp2_with (fail)
    go_roundw
    case rel=>obtain ⟨ws2,gh2,h2⟩:=HSK.out;exact ⟨k+1,ws2,gh2,by go_num,by omega,by omega,ld h2⟩
    case measure=>first | (simp [intOf];done) | (simp [intOf];omega)
   have q5:(kind==5)=false:=by simpa using k5
   have q6:(kind==6)=false:=by simpa using k6
   have q8:(kind==8)=false:=by simpa using k8
   have HKK:=ld (And.intro k5 (And.intro k6 k8))
   obtain ⟨S,g,sg,net,Fs,h,hC,hcal,hss⟩:=HK.out.1
   have HC:=ld hC
   have HG:=ld (And.intro hcal hss)
   have hK:16*k+16≤60000:=by omega
   clear k5 k6 k8 hC hcal hss HSK
   go_wp2_with (go_at_call 10;refine (act_any HC.out HG.out.1 HK.out.2.2.2 hK HK.out.2.1 kind nd' n' draw qA qn qc tw ds (·<w.heap.size) (fun j hj=>Nat.lt_of_lt_of_le hj HWB.out) HQD.out.1 HQD.out.2 HKK.out.1 HKK.out.2.1 HKK.out.2.2).mono ?_;rintro e w4 ⟨rfl,ws4,gh4,hT⟩;have HT:=ld hT;clear hT)
   go_roundw
   case rel=>exact ⟨k+1,ws4,gh4,by go_num,by omega,by omega,ld ⟨by rw [←HG.out.2];exact HT.out.cw,HT.out.net,HK.out.2.2.1.trans (HT.out.below.mono HWB.out),Nat.le_trans HK.out.2.2.2 HT.out.below.size⟩⟩
   case measure=>first | (simp [intOf];done) | (simp [intOf];omega)
  ·have hc1:=calm_any (w:=wr) (bw:=bw) (K:=16*k) HK.out.1 HK.out.2.2.2 (by omega) (by have:=HK.out.2.1;omega)
   have HC1:=ld hc1
   clear hc1
   have hcase:n≤k∨(k<n∧k=500):=by omega
   have hk6:16*k+1000+1000≤60000:=by omega
   clear hlt
   rcases hcase with h1 | ⟨h1,rfl⟩
   ·have hlt1:¬ ((k:Int)<(n:Int)):=by omega
    go_wp2_with (go_at_call 11;first
     | (refine HC1.out.mono ?_;rintro e w4 ⟨rfl,ws4,gh4,hT⟩;have HT:=ld hT;have HC2:=ld (calm_any (w:=w4) HT.out.cw (Nat.le_trans HK.out.2.2.2 HT.out.below.size) hk6 (by rw [HT.out.net];simp));clear hT)
     | (refine HC2.out.mono ?_;rintro e w5 ⟨rfl,ws5,gh5,hT2⟩;have HT2:=ld hT2;clear hT2))
    go_ret
    exact ⟨rfl,(HK.out.2.2.1.trans (HT.out.below.mono HWB.out)).trans (HT2.out.below.mono HWB.out)⟩
   ·have hlt1:((500:Nat):Int)<(n:Int):=by omega
    have hlt3:(500:Int)<(n:Int):=by omega
    go_wp2_with (go_at_call 11;first
     | (refine HC1.out.mono ?_;rintro e w4 ⟨rfl,ws4,gh4,hT⟩;have HT:=ld hT;have HC2:=ld (calm_any (w:=w4) HT.out.cw (Nat.le_trans HK.out.2.2.2 HT.out.below.size) hk6 (by rw [HT.out.net];simp));clear hT)
     | (refine HC2.out.mono ?_;rintro e w5 ⟨rfl,ws5,gh5,hT2⟩;have HT2:=ld hT2;clear hT2))
    go_ret
    exact ⟨rfl,(HK.out.2.2.1.trans (HT.out.below.mono HWB.out)).trans (HT2.out.below.mono HWB.out)⟩
end Go.Proofs.YtocogcgnahbpkaaGreat
namespace Go.Proofs.YtocogcgnahbpkaaGreat
open Go.ChangeShapes Go.WideShapes Go.RowKit Go.Deep
theorem weights_mem_all {H:Type} {P:Program} {e:TypeId}:∀ {ds:List (DataW H)} {d:DataW H},d∈ds→∀ n∈d.weights P e,n∈DataW.weightsAll P e ds
 | [],_,hd,_,_=>nomatch hd
 | d0 :: r,d,hd,n,hn=>by
  simp only [DataW.weightsAll,List.mem_append]
  rcases List.mem_cons.1 hd with rfl | hd
  ·exact .inl hn
  ·exact .inr (weights_mem_all hd n hn)
theorem cell_lt {W:World} {a:Addr} {v:Value} (h:W.cell? a=some v):a.spot=none∧a.block<W.heap.size:=by
 refine ⟨World.cell?_spot h,?_⟩
 unfold World.cell? at h
 split at h
 ·next hh=>exact (Array.getElem?_eq_some_iff.1 hh).1
 ·cases h
section
variable {H:Type} {enc:TypeId×Value→H}
theorem open_data {W:World} {held:Bool} {fuel:Nat} {cs:List Value} {x:DataW H×List MemPlace} (h:DataW.trod enc Tryz.prog W 0 (fun _=>true) held fuel 29 cs=some x) (hw:∀ n∈x.1.weights Tryz.prog 29,n≤reachBytes) :
  ∃ (A:Option Addr) (c:Nat) (ds:List (BR×List Int)),cs=[.slice A ds.length c]∧DataS W (·<W.heap.size) A ds∧ds.length≤140737488351232:=by
 rcases open_int_rows Tryz.underlying29 Tryz.underlying65 Tryz.underlying5 (by kernel_rfl) (by kernel_rfl) h with ⟨rfl,_⟩ | ⟨a,len,cap,A,L,C,Z,rfl,_,hlc,hcm,hx,hel⟩
 ·exact ⟨none,0,[],rfl,⟨.inl rfl,fun p hp=>nomatch hp⟩,by simp⟩
 ·have hwn:(len+(cap-len))*Tryz.prog.bytesOf 65≤reachBytes:=by
   refine hw _ ?_
   rw [hx]
   simp [DataW.weights,Tryz.underlying29]
  have hb65:Tryz.prog.bytesOf 65=24:=by kernel_rfl
  have hb5:Tryz.prog.bytesOf 5=1:=by kernel_rfl
  rw [hb65] at hwn
  have hC:∀ r,r<len→C r≤reachBytes:=by
   intro r hr
   rcases hA:A r with _ | a'
   ·rw [(hel r (by omega)).2.2.2.2.2.1 hA];exact Nat.zero_le _
   ·have hz:=(hel r (by omega)).2.2.2.1
    have hlc':=(hel r (by omega)).2.1
    refine hw _ ?_
    rw [hx]
    simp only [DataW.weights,Tryz.underlying29,List.mem_cons,List.mem_append]
    right;left
    refine weights_mem_all (d:=intRow .u8 (A r) (L r) (Z r)) (List.mem_map.2 ⟨r,List.mem_range.2 hr,rfl⟩) _ ?_
    rw [hA]
    simp [intRow,DataW.weights,Tryz.underlying65,hb5,lits,hz]
    left;omega
  unfold reachBytes at hwn hC
  refine ⟨some a,cap,(List.range len).map fun r=>(⟨A r,L r,C r⟩,(Z r).take (L r)),by simp,⟨?_,fun p hp=>?_⟩,by simp;omega⟩
  ·rcases Nat.eq_zero_or_pos len with h0 | h0
   ·subst h0;exact .inl rfl
   ·have hc0:=(hel 0 (by omega)).1
    obtain ⟨hs,hl⟩:=cell_lt hc0
    obtain ⟨b,o,spot⟩:=a
    simp only [Addr.add] at hs hl
    subst hs
    refine .inr ⟨b,o,rfl,hl,fun k y hk j v hv=>?_⟩
    rw [List.map_map,List.getElem?_map] at hk
    have hkl:k<len:=by
     rcases Nat.lt_or_ge k len with h | h
     ·exact h
     ·rw [List.getElem?_eq_none (by simpa using h)] at hk;cases hk
    rw [List.getElem?_range hkl] at hk
    simp only [Option.map_some,Option.some.injEq,Function.comp] at hk
    subst hk
    have hj:j=0:=by have:=(List.getElem?_eq_some_iff.1 hv).1;simp [encBR] at this;exact this
    subst hj
    simp [encBR] at hv
    subst hv
    have:=(hel k (by omega)).1
    rw [Addr.add_lit] at this
    simpa using this
  ·obtain ⟨r,hr,rfl⟩:=List.mem_map.1 hp
   have hr':=List.mem_range.1 hr
   obtain ⟨_,h1,_,h3,_,h5,h6⟩:=hel r (by omega)
   have hCr:=hC r hr'
   have hlen:((Z r).take (L r)).length=L r:=by rw [List.length_take,h3];omega
   refine ⟨?_,hlen.symm,by simp only;omega⟩
   rcases Nat.eq_zero_or_pos (L r) with h0 | h0
   ·exact .inl (by simp [h0])
   ·rcases hA:A r with _ | a'
    ·have:=h5 hA;omega
    ·obtain ⟨_,hc⟩:=h6 a' hA
     obtain ⟨hs,hl⟩:=cell_lt (hc 0 (by omega))
     obtain ⟨b,o,spot⟩:=a'
     simp only [Addr.add] at hs hl
     subst hs
     refine .inr ⟨b,o,rfl,hl,fun k y hk j v hv=>?_⟩
     have hkl:k<L r:=by have h9:k<((Z r).take (L r)).length:=(List.getElem?_eq_some_iff.1 hk).1;omega
     have hj:j=0:=by have:=(List.getElem?_eq_some_iff.1 hv).1;simp [encB] at this;exact this
     subst hj
     simp [encB] at hv
     subst hv
     have h7:=hc k (by omega)
     have h8:(Z r).getD k 0=y:=by
      rw [List.getElem?_take,if_pos hkl] at hk
      simp [List.getD,hk]
     rw [h8,Addr.add_lit] at h7
     simpa using h7
end
end Go.Proofs.YtocogcgnahbpkaaGreat
