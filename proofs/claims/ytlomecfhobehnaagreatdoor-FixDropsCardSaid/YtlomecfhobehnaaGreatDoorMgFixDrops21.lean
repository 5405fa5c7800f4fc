import Derived.Test.YtlomecfhobehnaaGreatDoorMgFixDrops17
import Derived.Test.YtlomecfhobehnaaGreatDoorMgFixDrops20
set_option linter.all false
set_option maxRecDepth 100000
set_option maxHeartbeats 16000000
namespace Go.Proofs.YtlomecfhobehnaaGreatDoor
open Lib (hid)
section
open Go.RowKit
open Rd
theorem Fv(a:Act)(v:Value):a.put none v=a:=rfl
namespace Tm
theorem iA{ts ns seen:List Wd}{l:Its}{e:Nat}(h:bD ts l ns seen= .bad e):ef ts l ns seen= .bad e:=by unfold ef;rw[h]
theorem xf{ts ns seen ns' seen':List Wd}{l:Its}{e:Nat}(h:bD ts l ns seen= .ok ns' seen')(h2:dw l.row=some e):ef ts l ns seen= .bad e:=by unfold ef;rw[h];simp only[];rw[h2]
theorem Fw{ts ns seen ns' seen':List Wd}{l:Its}(h:bD ts l ns seen= .ok ns' seen')(h2:dw l.row=none):ef ts l ns seen= .ok ns' seen:=by unfold ef;rw[h];simp only[];rw[h2]
theorem zH(k:Knd)(c:Option Ex.X)(ts:List Wd):((aJ k:Int)==4)=false∧(aJ k==4)=false∧∃st sl:Bool,((aJ k:Int)==3)=st∧(aJ k==3)=st∧((aJ k:Int)==1)=sl∧(aJ k==1)=sl∧kT ts k=(st&& !ts.contains (bw k))∧∀a nm r,single ⟨a,k,nm,c,r⟩=(sl&& !ba ⟨a,k,nm,c,r⟩):=by
 cases k with
 |scalar w=>exact⟨rfl,rfl,false,true,rfl,rfl,rfl,rfl,rfl,fun a nm r=>by cases c <;> rfl⟩
 |bytes=>exact⟨rfl,rfl,false,false,rfl,rfl,rfl,rfl,rfl,fun a nm r=>by cases c <;> rfl⟩
 |struct t=>exact⟨rfl,rfl,true,false,rfl,rfl,rfl,rfl,rfl,fun a nm r=>by cases c <;> rfl⟩
theorem lA:∀l:Its,l.len≤l.sz
 | .nil=>Z5 _
 | .cons _ l=>by have:=lA l;simp only[Its.len,Its.sz];omega
 | .when _ _ _ l=>by have:=lA l;simp only[Its.len,Its.sz];omega
theorem Dd{ts ns seen ns' seen':List Wd}{l:Its}(h:ef ts l ns seen= .ok ns' seen'):ns'.length≤ns.length+l.sz:=by
 unfold ef at h;cases hc:bD ts l ns seen with
 |bad e=>rw[hc]at h;cases h
 |ok n2 s2=>
  rw[hc]at h;simp only[]at h;have:=mx hc;split at h
  ·cases h
  ·cases h;exact this
theorem zI{ts ns seen:List Wd}{h:Hd}{l:Its}(h1:ns.contains h.name=true):bD ts (.cons h l) ns seen= .bad 9:=by rw[bD,if_pos h1]
theorem De{ts ns seen:List Wd}{h:Hd}{l:Its}(h1:ns.contains h.name=false)(h2:kT ts h.k=true):bD ts (.cons h l) ns seen= .bad 7:=by rw[bD,h1,if_neg (by decide),if_pos h2]
theorem Df{ts ns seen:List Wd}{h:Hd}{l:Its}(h1:ns.contains h.name=false)(h2:kT ts h.k=false)(h3:asks seen (ee h.cnt)=false):bD ts (.cons h l) ns seen= .bad 5:=by rw[bD,h1,if_neg (by decide),h2,if_neg (by decide),h3,if_neg (by decide)]
theorem Dg{ts ns seen:List Wd}{h:Hd}{l:Its}(h1:ns.contains h.name=false)(h2:kT ts h.k=false)(h3:asks seen (ee h.cnt)=true):bD ts (.cons h l) ns seen=bD ts l (h.name::ns) (if single h then seen++[h.name]else seen):=by rw[bD,h1,if_neg (by decide),h2,if_neg (by decide),h3,if_pos rfl]
end Tm
theorem zJ(l:Tm.Its)(hB:∀b,Tm.Its.sz b < Tm.Its.sz l→uI b):uI l:=by
 intro V w rb cap cb tb mb sc ga sa bs ts ns seen hv hs hn1 hn2 hn3 hF hX;have hcap:Tm.Its.len l≤cap:=aW hv.own;have HRU:=hid (fun W hW=>CV V rb cap (Tm.Its.len l) cb l ga bs W rfl hn3 hW);obtain⟨n,hn⟩:∃n,n=Tm.Its.len l:=⟨_,rfl⟩;rw[← hn]at hcap hn3 HRU⊢;obtain⟨n0,hn0⟩:∃n0,n0=seen.length:=⟨_,rfl⟩;have HN:=hid hn;have HN0:=hid hn0;have HV:=hid hv;have HS:=hid hs;have HF:=hid hF;have HX:=hid hX;have HBD:=hid (And.intro hn1 hn2);have HBB:=hid hB;have k2:=hs.cells.2.2.1;have hl0:seen.length≤100000:=by omega
 clear hn hv hs hF hX hB hn1 hn2;rw[← hn0]at k2;go_enter Tryz.func58,Tryz.ntmps58;go_wp2_with fail;go_loopw [14] (fun v14 wr=>∃(i:Nat) (nsi seeni:List Tm.Wd) (sai:Option Addr) (sci:Nat),v14= .int .i64 (i:Nat)∧i≤n∧Hid (Tm.bD ts l ns seen=Tm.bD ts (Tm.Its.drop i l) nsi seeni)∧Hid (ItS V wr cb tb mb ts nsi seeni sai sci)∧Hid (seeni.take n0=seen)∧Hid (nsi.length+Tm.Its.sz (Tm.Its.drop i l)≤100000∧seeni.length+Tm.Its.sz (Tm.Its.drop i l)≤100000)) (fun v14 _=>n - (intOf v14).toNat)
 case atStart=>exact⟨0,ns,seen,sa,sc,rfl,Nat.zero_le _,hid rfl,HS,hid (by rw[HN0.out,List.take_length]),HBD⟩
 case round=>
  obtain⟨i,nsi,seeni,sai,sci,rfl,hi,HQ,HSI,HP,HBI⟩:=hrel;clear HS k2
  by_cases hlt:i < n
  ·have hki:(i:Int) < (n:Int):=by omega
   have q1:decide ((i:Int) < (n:Int))=true:=Z9 hki;have q2:decide (i < n)=true:=Z9 hlt;have HLT:=hid hlt;obtain⟨x,rfl⟩:∃x,ga=some x:=by
    cases ga with
    |none=>have:=HV.out.own.aS.1;rw[← HN.out]at this;omega
    |some x=>exact⟨x,rfl⟩
   obtain⟨gb,rfl⟩:∃gb,x=⟨gb,0,none⟩:=⟨x.block,HV.out.own.row.1⟩;have HFD:=hid (Tm.dh i l HF.out);have HXD:=hid (Tm.qA i l HX.out);have HSD:=hid (Tm.gT i l);rcases Tm.cF l i (by rw[← HN.out];exact hlt)with⟨h,r,hdr⟩|⟨a,c,b,r,hdr⟩
   ·rw[hdr]at HQ HFD HXD HBI;obtain⟨cv,hcv,hrow,hnx⟩:=Tm.bu.hd HV.out.own HV.out.enc hdr;obtain⟨p8,rfl⟩:∃p8,cv= .pointer p8:=by
     cases hc:h.cnt with
     |none=>rw[hc]at hcv;exact⟨none,hcv⟩
     |some x=>rw[hc]at hcv;obtain⟨b,h1,_⟩:=hcv;exact⟨_,h1⟩
    have HROW:=hid hrow;have HNX:=hid hnx;have HCV:=hid hcv;have hnl:=Tm.cg HFD.out.1.2.1.2;clear hrow hnx hdr hcv HSD HBB hlt;obtain⟨at_,kd,nm,cn,ru⟩:=h;simp only[]at hnl HCV;have hnl2:nm.length≤100000:=by omega
    have htl:(Tm.bw kd).length≤100000:=by
     have h9:=HFD.out.1.1;cases kd with
     |struct t=>have:=Tm.cg h9.2;simp only[Tm.bw];omega
     |_=>simp[Tm.bw]
    obtain⟨e1,e2,st,sl,e3,e4,e5,e6,e7,e8⟩:=Tm.zH kd cn ts;have HE7:=hid e7;have HE8:=hid (e8 at_ nm ru);clear e7 e8;have hrw:=HROW.out.below HSI.out.bel HROW.out.lt;have c0:=hrw.cell 0 (by simp[Tm.ag]);have c1:=hrw.cell 1 (by simp[Tm.ag]);have c2:=hrw.cell 2 (by simp[Tm.ag]);simp only[Tm.ag,Z0,Z1,Y2]at c0 c1 c2;clear hrw;obtain⟨k0,k1,k2,f2⟩:=HSI.out.cells;have hk9:=fun j=>(HSI.out.drewN j).nm.look Tryz.underlying9 Tryz.underlying103 Tryz.underlying3 (uH _) nm hnl2
    cases hin:nsi.contains nm with
    |true=>
     have hk8:=hk9;simp only[hin,if_true]at hk8;have HIN:=hid hin;clear hk9 hin;go_wp2_with fail;go_quiet (fail);obtain⟨wq,hwq⟩:∃wq,wq=wr.drewN nq:=⟨_,rfl⟩;have SQ:=hid (show ItS V wq cb tb mb ts nsi seeni sai sci by rw[hwq];exact HSI.out.drewN nq);rw[← hwq];clear hwq hk8 c0 c1 c2 k0 k1 k2 f2;have hrw:=HROW.out.below SQ.out.bel HROW.out.lt;have c1:=hrw.cell 1 (by simp[Tm.ag]);simp only[Tm.ag,Z0,Z1,Y2]at c1;clear hrw;have HE:=hid (Tm.iA (HQ.out.trans (Tm.zI HIN.out):Tm.bD ts l ns seen= .bad 9));go_wp2_with fail;refine(cB 9 at_ wq).mono ?_;rintro e wF ⟨rfl,g1,g2⟩;have HB9:=hid (SQ.out.bel.trans (g2.mono SQ.out.bel.size));have G1:=hid g1;clear g1 g2;go_wp2_with fail;refine⟨rfl,?_⟩;rw[HE.out];exact⟨HB9.out,_,_,rfl,G1.out⟩
    |false=>
     have hk8:=hk9;simp only[hin,Bool.false_eq_true,if_false]at hk8;have HIN:=hid hin;clear hk9 hin;go_wp2_with fail;go_quiet (fail);obtain⟨wq,hwq⟩:∃wq,wq=wr.drewN nq:=⟨_,rfl⟩;have SQ:=hid (show ItS V wq cb tb mb ts nsi seeni sai sci by rw[hwq];exact HSI.out.drewN nq);rw[← hwq];clear hwq hk8 c0 c1 c2 k0 k1 k2 f2;have hrw:=HROW.out.below SQ.out.bel HROW.out.lt;have c2:=hrw.cell 2 (by simp[Tm.ag]);simp only[Tm.ag,Z0,Z1,Y2]at c2;clear hrw;obtain⟨k0,k1,k2,f2⟩:=SQ.out.cells;go_wp2_with fail;go_still_tail 8,(by kernel_rfl);change wpList _ _ _ _ _ wq.drew;refine kS wq.drew rfl _ _ _ 103 rfl 9 3 Tryz.underlying103 Tryz.underlying9 Tryz.underlying3 mb nsi.length nsi rfl SQ.out.drew.nm (by have:=HBI.out.1;show nsi.length < 9223372036854775807;omega) nm hnl2 rfl rfl ?_;intro w5 hm5 hg5;have S5:=hid (SQ.out.drew.store hm5 hg5);clear hm5 hg5 c2 k0 k1 k2 f2;have hrw:=HROW.out.below S5.out.bel HROW.out.lt;have c0:=hrw.cell 0 (by simp[Tm.ag]);have c3:=hrw.cell 3 (by simp[Tm.ag]);simp only[Tm.ag,Z0,Z1,Y2]at c0 c3;clear hrw;obtain⟨k0,k1,k2,f2⟩:=S5.out.cells;have hk9:=fun j=>(S5.out.drewN j).tm.look Tryz.underlying9 Tryz.underlying103 Tryz.underlying3 (uH _) (Tm.bw kd) htl
     obtain⟨tp,htp⟩:∃tp,tp=Tm.bw kd:=⟨_,rfl⟩;rw[← htp]at c3 hk9;have HTP:=hid htp;clear htp;obtain⟨la,hla⟩:∃la,la=Tm.kT ts kd:=⟨_,rfl⟩;have HLA:=hid hla;clear hla;obtain⟨hit,hhit⟩:∃hit,hit=ts.contains tp:=⟨_,rfl⟩;rw[← hhit]at hk9;have HHIT:=hid hhit;clear hhit;have hlx:la=(st&& !hit):=by rw[HLA.out,HE7.out,HHIT.out,HTP.out]
     have HLX:=hid hlx;clear hlx;have hk8:∀j,(Instr.lookup 103 (.map (some tb)) (.string (aa tp)) false).run Tryz.prog (w5.drewN j)= .ok (.int .i64 (if hit then 1 else 0)) (w5.drewN j):=hk9;clear hk9
     go_upto_region 11 with fail
     rw[Fv];go_cut [76]from 60 to 76 (fun v wx=>v= .bool la∧Hid (ItS V wx cb tb mb ts (nm::nsi) seeni sai sci))
     case first=>
      have hlx:=HLX.out;cases hit with
      |true=>
       simp only[if_true]at hk8;cases st with
       |true=>
        go_quiet (fail);have SP:=hid (S5.out.drewN nq);generalize w5.drewN nq=wp at *
        go_wp2_with fail;go_meet;exact⟨by rw[hlx];rfl,SP⟩
       |false=>
        go_quiet (fail);have SP:=hid (S5.out.drewN nq);generalize w5.drewN nq=wp at *
        go_wp2_with fail;go_meet;exact⟨by rw[hlx];rfl,SP⟩
      |false=>
       simp only[Bool.false_eq_true,if_false]at hk8;cases st with
       |true=>
        go_quiet (fail);have SP:=hid (S5.out.drewN nq);generalize w5.drewN nq=wp at *
        go_wp2_with fail;go_meet;exact⟨by rw[hlx];rfl,SP⟩
       |false=>
        go_quiet (fail);have SP:=hid (S5.out.drewN nq);generalize w5.drewN nq=wp at *
        go_wp2_with fail;go_meet;exact⟨by rw[hlx];rfl,SP⟩
     case rest=>
      obtain⟨rfl,SP⟩:=hcut;clear hk8 c0 c3 k0 k1 k2 f2;cases la with
      |true=>
       have HLT2:=hid (show Tm.kT ts kd=true from HLA.out.symm);have hrw:=HROW.out.below SP.out.bel HROW.out.lt;have c1:=hrw.cell 1 (by simp[Tm.ag]);simp only[Tm.ag,Z0,Z1,Y2]at c1;clear hrw;have HE:=hid (Tm.iA (HQ.out.trans (Tm.De HIN.out HLT2.out):Tm.bD ts l ns seen= .bad 7));go_wp2_with fail;refine(cB 7 at_ wc).mono ?_;rintro e wF ⟨rfl,g1,g2⟩;have HB9:=hid (SP.out.bel.trans (g2.mono SP.out.bel.size));have G1:=hid g1;clear g1 g2;go_wp2_with fail;refine⟨rfl,?_⟩;rw[HE.out];exact⟨HB9.out,_,_,rfl,G1.out⟩
      |false=>
       have hlf:Tm.kT ts kd=false:=HLA.out.symm;have HLF:=hid hlf;clear hlf;have hrw:=HROW.out.below SP.out.bel HROW.out.lt;have c8:=hrw.cell 8 (by simp[Tm.ag]);simp only[Tm.ag,Z0,Z1,Y2]at c8;clear hrw;have HAS:=hid (xa V wc rb cb tb mb sci sai seeni p8 cn HCV.out SP.out.bel SP.out.cks HXD.out.1 (by have:=HBI.out.2;omega));go_wp2_with fail;refine HAS.out.mono ?_;rintro e w6 ⟨hb6,ht6⟩;have S6:=hid (SP.out.up hb6);clear hb6 HAS c8;cases ha:Tm.asks seeni (Tm.ee cn)with
       |false=>
        rw[ha]at ht6;obtain⟨g,p,rfl,g1,g2⟩:=ht6;have G1:=hid g1;have HE:=hid (Tm.iA (HQ.out.trans (Tm.Df HIN.out HLF.out ha):Tm.bD ts l ns seen= .bad 5));clear g1 g2 ha;unfold iS;go_wp2_with fail;refine⟨rfl,?_⟩;rw[HE.out];exact⟨S6.out.bel,_,_,rfl,G1.out⟩
       |true=>
        rw[ha]at ht6;obtain rfl:e= .returned (.tuple #[]):=ht6;have HQ8:=hid (HQ.out.trans (Tm.Dg HIN.out HLF.out ha));clear ha;have hrw:=HROW.out.below S6.out.bel HROW.out.lt;have c0:=hrw.cell 0 (by simp[Tm.ag]);have c7:=hrw.cell 7 (by simp[Tm.ag]);simp only[Tm.ag,Z0,Z1,Y2]at c0 c7;clear hrw;have hsing:Tm.single ⟨at_,kd,nm,cn,ru⟩=(sl&& !Tm.ba ⟨at_,kd,nm,cn,ru⟩):=HE8.out;have HB9:=hid (show(nm::nsi).length+Tm.Its.sz (Tm.Its.drop (i+1) l)≤100000∧seeni.length+1+Tm.Its.sz (Tm.Its.drop (i+1) l)≤100000 by rw[HNX.out];have h1:=HBI.out;simp only[Tm.Its.sz,Z6]at h1⊢;omega);generalize Tm.ba ⟨at_,kd,nm,cn,ru⟩=mn at *
        cases sl with
        |false=>
         have HQ9:=hid (show Tm.bD ts l ns seen=Tm.bD ts (Tm.Its.drop (i+1) l) (nm::nsi) seeni by rw[HQ8.out,hsing,HNX.out];rfl);clear hsing;go_wp2_with fail;go_roundw
         case rel=>exact⟨i+1,nm::nsi,seeni,sai,sci,by go_num,by have:=HLT.out;omega,HQ9,S6,HP,hid ⟨HB9.out.1,by have:=HB9.out.2;omega⟩⟩
         case measure=>simp[intOf];have:=HLT.out;omega
        |true=>
         cases mn with
         |true=>
          have HQ9:=hid (show Tm.bD ts l ns seen=Tm.bD ts (Tm.Its.drop (i+1) l) (nm::nsi) seeni by rw[HQ8.out,hsing,HNX.out];rfl);clear hsing;go_wp2_with fail;go_roundw
          case rel=>exact⟨i+1,nm::nsi,seeni,sai,sci,by go_num,by have:=HLT.out;omega,HQ9,S6,HP,hid ⟨HB9.out.1,by have:=HB9.out.2;omega⟩⟩
          case measure=>simp[intOf];have:=HLT.out;omega
         |false=>
          have HQ9:=hid (show Tm.bD ts l ns seen=Tm.bD ts (Tm.Its.drop (i+1) l) (nm::nsi) (seeni++[nm]) by rw[HQ8.out,hsing,HNX.out];rfl);clear hsing;go_wp2_with fail;clear c0 c7;have hrw:=HROW.out.below S6.out.bel HROW.out.lt;have c2:=hrw.cell 2 (by simp[Tm.ag]);simp only[Tm.ag,Z0,Z1,Y2]at c2;clear hrw;obtain⟨k0,k1,k2,f2⟩:=S6.out.cells;have hscap:seeni.length≤sci:=aW S6.out.own;have hml:seeni.length+1≤maxLen:=by have:=HBI.out.2;show seeni.length+1≤9223372036854775807;omega
          have hmb:(seeni.length+1) * 16≤140737488355328:=by have:=HBI.out.2;omega
          have S7:=hid (S6.out.drew.up ((Y4 _ _).alloc (Z5 _) (.cells #[.string (aa nm)] 9)));have hB7:=S7.out.bel.size;obtain⟨_,_,ka2,kaf⟩:=(S6.out.up ((Y4 _ _).alloc (Z5 _) (.cells #[.string (aa nm)] 9))).cells;have HPU:=hid (fun(w4:World) (a':Option Addr) (c':Nat) (ho:ak w4 V.heap.size 9 1 a' (seeni.length+1) c' (eo seeni++[.string (aa nm)])) (hg:(w6.drew.alloc (.cells #[.string (aa nm)] 9)).grownBy w4 (blk sai))=>S7.out.JJ ho hg);go_region_law ((refine gw _ (by rfl) _ _ 105 (by rfl) V.heap.size 9 (.string ByteArray.empty) 1 16 Tryz.underlying105 zC rfl (by decide) sai seeni.length sci _ (by rfl) S7.out.own w6.heap.size 1 1 (by decide) [.string (aa nm)] (by rfl) (by simp[Value.oneCell']) (by rfl) (ae.new w6.drew 9 #[.string (aa nm)]) hml hmb hB7 ?_;intro a' c' w4 ho4 hg4 hl4 hx4;obtain⟨hbx4,hs4⟩:=HPU.out w4 a' c' ho4 hg4;have j2:=hbx4.cell0 2 (by simp);have jf:=hbx4.frozen0 2 (by simp)))
          all_goals
           have S8:=hid hs4;have HP9:=hid (show(seeni++[nm]).take n0=seen by rw[List.take_append_of_le_length (by have h8:=congrArg List.length HP.out;rw[List.length_take,← HN0.out]at h8;omega)];exact HP.out);go_wp2_with fail;go_roundw
           case rel=>exact⟨i+1,nm::nsi,seeni++[nm],a',c',by go_num,by have:=HLT.out;omega,HQ9,S8,HP9,hid ⟨HB9.out.1,by rw[Z7];exact HB9.out.2⟩⟩
           case measure=>simp[intOf];have:=HLT.out;omega
   ·rw[hdr]at HQ HFD HXD HBI;obtain⟨cb2,gb2,capb,bb,hx,hob,heb,hrow,hnx⟩:=Tm.bu.wh HV.out.own HV.out.enc hdr;have HROW:=hid hrow;have HNX:=hid hnx;have HCV:=hid (show Tm.qf V rb (some c) (.pointer (some ⟨cb2,0,none⟩))from⟨cb2,rfl,hx⟩);have HOB:=hid hob;have HEB:=hid heb;have hszr:Tm.Its.sz b+Tm.Its.sz r+1≤Tm.Its.sz l:=by have:=HSD.out;rw[hdr]at this;exact this
    have HSZ:=hid hszr;have hrw:=hrow.below HSI.out.bel hrow.lt;have c0:=hrw.cell 0 (by simp[Tm.au]);have c8:=hrw.cell 8 (by simp[Tm.au]);simp only[Tm.au,Z0,Z1,Y2]at c0 c8;have HAS:=hid (xa V wr rb cb tb mb sci sai seeni (some ⟨cb2,0,none⟩) (some c) HCV.out HSI.out.bel HSI.out.cks HXD.out.1 (by have:=HBI.out.2;omega));clear hx hob heb hrow hnx hdr hszr hrw HSD hlt;have HQ1:=hid (HQ.out.trans (Tm.CZ ts a c b r nsi seeni));clear HQ;go_wp2_with fail;refine HAS.out.mono ?_;rintro e w2 ⟨hb2,ht2⟩;have S2:=hid (HSI.out.up hb2);clear hb2 HAS c0 c8;have hno:Tm.ee (some c)=Tm.cf c:=rfl;rw[hno]at ht2;cases ha:Tm.asks seeni (Tm.cf c)with
    |false=>
     rw[ha]at ht2;obtain⟨g,p,rfl,g1,g2⟩:=ht2;have G1:=hid g1;have HE:=hid (Tm.iA (HQ1.out.trans (by rw[ha];rfl):Tm.bD ts l ns seen= .bad 5));clear g1 g2 ha hno;unfold iS;go_wp2_with fail;refine⟨rfl,?_⟩;rw[HE.out];exact⟨S2.out.bel,_,_,rfl,G1.out⟩
    |true=>
     rw[ha]at ht2;obtain rfl:e= .returned (.tuple #[]):=ht2;have HQ2:=hid (HQ1.out.trans (by rw[ha];rfl):Tm.bD ts l ns seen=(match Tm.ef ts b nsi seeni with| .bad e=> .bad e| .ok ns' _=>Tm.bD ts r ns' seeni));clear ha hno HQ1;have c12:=(HROW.out.below S2.out.bel HROW.out.lt).cell 12 (by simp[Tm.au]);simp only[Tm.au,Z0,Z1,Y2]at c12;have HIT:=hid (HBB.out b (by have:=HSZ.out;omega) V w2 rb capb cb tb mb sci gb2 sai bb ts nsi seeni ⟨HOB.out,HEB.out,S2.out.bel⟩ S2.out (by have:=HBI.out.1;simp only[Tm.Its.sz]at this;omega) (by have:=HBI.out.2;simp only[Tm.Its.sz]at this;omega) (Nat.le_trans (Tm.lA b) (by have:=HBI.out.2;simp only[Tm.Its.sz]at this;omega)) HFD.out.2.1 HXD.out.2.1);unfold qB iS at HIT;go_wp2_with fail;refine HIT.out.mono ?_;intro e w3 hp3;cases hit:Tm.ef ts b nsi seeni with
     |bad en=>
      rw[hit]at hp3;obtain⟨hb3,g,p,rfl,g1⟩:=hp3;have HE:=hid (Tm.iA (HQ2.out.trans (by rw[hit]):Tm.bD ts l ns seen= .bad en));have HB3:=hid hb3;have G1:=hid g1;clear hb3 g1 hit HIT;go_wp2_with fail;refine⟨rfl,?_⟩;rw[HE.out];exact⟨HB3.out,_,_,rfl,G1.out⟩
     |ok ns3 s3=>
      rw[hit]at hp3;obtain⟨rfl,sa3,sc3,hs3⟩:=hp3;have S3:=hid hs3;have HL3:=hid (Tm.Dd hit);have HQ3:=hid (HQ2.out.trans (by rw[hit,HNX.out]):Tm.bD ts l ns seen=Tm.bD ts (Tm.Its.drop (i+1) l) ns3 seeni);clear hs3 hit HIT;go_wp2_with fail;go_roundw
      case rel=>exact⟨i+1,ns3,seeni,sa3,sc3,by go_num,by have:=HLT.out;omega,HQ3,S3,HP,hid (by rw[HNX.out];have h1:=HBI.out;have h2:=HL3.out;simp only[Tm.Its.sz]at h1;omega)⟩
      case measure=>simp[intOf];have:=HLT.out;omega
  ·obtain rfl:i=n:=by omega
   have hd:decide ((i:Int) < (i:Int))=false:=by simp
   have hd2:decide (i < i)=false:=by simp
   have HQ1:=hid (HQ.out.trans (by rw[HN.out,Tm.df];rfl):Tm.bD ts l ns seen= .ok nsi seeni);have HRW:=hid (HRU.out wr ⟨HV.out.own,HV.out.enc,HSI.out.bel⟩);clear HQ HRU;go_wp2_with fail;refine HRW.out.mono ?_;rintro e w2 ⟨hb2,ht2⟩;have S2:=hid (HSI.out.up hb2);clear hb2;cases hr:Tm.dw l.row with
   |some en=>
    rw[hr]at ht2;obtain⟨g,p,rfl,g1,g2⟩:=ht2;have G1:=hid g1;have HE:=hid (Tm.xf HQ1.out hr);clear g1 g2 hr HRW;unfold iS;go_wp2_with fail;refine⟨rfl,?_⟩;rw[HE.out];exact⟨S2.out.bel,_,_,rfl,G1.out⟩
   |none=>
    rw[hr]at ht2;obtain rfl:e= .returned (.tuple #[]):=ht2;have HE:=hid (Tm.Fw HQ1.out hr);obtain⟨_,_,k2,f2⟩:=S2.out.cells;have hle:n0≤seeni.length:=by
     have:=congrArg List.length HP.out;rw[List.length_take,← HN0.out]at this;omega
    have hsc:seeni.length≤sci:=aW S2.out.own;have z1:(0:Int)≤(n0:Int):=by omega
    have z2:(n0:Int)≤(sci:Int):=by omega
    have HCUT:=hid (S2.out.cut n0 hle);have HSC:=hid hsc;clear hr HRW hle hsc;go_wp2_with fail
    go_end0
    rw[HE.out];refine⟨rfl,sai,sci,?_⟩;have:=HCUT.out;rw[HP.out]at this
    first
     |exact this
     |(rw[HN0.out]at this;exact this)
theorem tj:∀(n:Nat) (l:Tm.Its),Tm.Its.sz l < n→uI l
 |0,l,h=>by omega
 |n+1,l,h=>zJ l fun b hlt=>tj n b (by omega)
theorem Dh(l:Tm.Its):uI l:=tj (Tm.Its.sz l+1) l (Nat.lt_succ_self _)
end
end Go.Proofs.YtlomecfhobehnaaGreatDoor
