import Derived.Deep.RegionHeld3
import Derived.Test.YtlomecfhobehnaaGreatDoorMgFixSets3
set_option linter.unusedVariables false
set_option linter.unusedSimpArgs false
set_option maxRecDepth 100000
set_option maxHeartbeats 2000000
namespace Go.Proofs.YtlomecfhobehnaaGreatDoor
open Lib (hid)
section
open Go.RowKit
open Rd
open Ex (X levels)
namespace Rd
inductive iU(rb E:Nat):Nat→X→Nat→List Tok→Ex.Out→Prop where
 |done {k x d T}:(∀t T',T=t::T'→t.1∉levels k)→iU rb E k x d T (.ok x T)
 |more {k x d t T T' y o}:t.1∈levels k→mB rb E (k+1) d T (.ok y T')→T'.length≤T.length→iU rb E k (.bin t.2 t.1 x y) d T' o→iU rb E k x d (t::T) o
 |dJ {k x d t T e p}:t.1∈levels k→mB rb E (k+1) d T (.bad e p)→iU rb E k x d (t::T) (.bad e p)
theorem iU.stop{rb E k d:Nat}{x:X}{T:List Tok}{o:Ex.Out}(h:iU rb E k x d T o)(hn:∀t T',T=t::T'→t.1∉levels k):o= .ok x T:=by
 cases h with
 |done _=>rfl
 |more h1=>exact absurd h1 (hn _ _ rfl)
 |dJ h1=>exact absurd h1 (hn _ _ rfl)
theorem iU.go{rb E k d:Nat}{x:X}{t:Tok}{T:List Tok}{o:Ex.Out}(h:iU rb E k x d (t::T) o)(ht:t.1∈levels k):
  (∃y T',mB rb E (k+1) d T (.ok y T')∧T'.length≤T.length∧iU rb E k (.bin t.2 t.1 x y) d T' o)∨(∃e p,mB rb E (k+1) d T (.bad e p)∧o= .bad e p):=by
 cases h with
 |done h1=>exact absurd ht (h1 _ _ rfl)
 |more _ h2 h3 h4=>exact .inl ⟨_,_,h2,h3,h4⟩
 |dJ _ h2=>exact .inr ⟨_,_,h2,rfl⟩
def leftOf(w:World)(rb:Nat):Nat:=match w.cell? ⟨rb,0,none⟩with
 |some (.slice _ n _)=>n
 |_=>0
theorem Rdr.left{w:World}{rb E:Nat}{R:List Tok}(h:Rdr w rb R E):leftOf w rb=R.length:=by
 obtain⟨a,c,h1,_⟩:=h;have:=h1.cell0 0 (by simp);simp only[Z0]at this;unfold leftOf;rw[this]
theorem rz(k j:Nat)(h:j < (levels k).length):(levels k).getD j []≠[]∧(levels k).getD j []∈levels k:=by
 rw[List.getD_eq_getElem?_getD,Y1 h];have hm:(levels k)[j]∈levels k:=List.getElem_mem h;obtain⟨c,l,h1,_⟩:=Lex.rj _ (Ex.cG k _ hm).1;refine⟨?_,hm⟩;simp only[Option.getD_some];rw[h1];simp
theorem lA(k:Nat):(levels k).length≤4:=by
 match k with
 |0=>decide
 |1=>decide
 |2=>decide
 |_+3=>exact Nat.zero_le _
theorem oZ{k:Nat}{s:List UInt8}(h:∀j,j < (levels k).length→(levels k).getD j []≠s):s∉levels k:=by
 intro hm;obtain⟨j,hj,rfl⟩:=List.getElem_of_mem hm;refine h j hj ?_;rw[List.getD_eq_getElem?_getD,Y1 hj];rfl
def Found(wr:World)(rb E k j:Nat)(T2:List Tok)(op:List UInt8):Prop:=
 (op=[]∧(∀i,i < j→(levels k).getD i []≠ak T2)∧Rdr wr rb T2 E)∨(∃t T3,T2=t::T3∧t.1∈levels k∧op=t.1∧t.1≠[]∧Rdr wr rb T3 E)
end Rd
theorem sS(rb E d:Nat)(T:List Rd.Tok)(x:X)(R:List Rd.Tok)(h:mC rb E d T (.ok x R)):mB rb E 3 d T (.ok x R):=by
 intro w henv hr;have H:=hid (h w henv hr);clear h henv hr;go_enter Tryz.func138,Tryz.ntmps138;go_wp2_with fail;refine H.out.mono ?_;rintro e w1 ⟨b,rfl,h1⟩;go_wp2_with fail;go_ret;exact⟨b,rfl,h1⟩
theorem qN(rb E d:Nat)(T:List Rd.Tok)(en p:Nat)(h:mC rb E d T (.bad en p)):mB rb E 3 d T (.bad en p):=by
 intro w henv hr;have h1:=h w henv hr;unfold gj aC at h1⊢;have H:=hid h1;clear h h1 henv hr;go_enter Tryz.func138,Tryz.ntmps138;go_wp2_with fail;refine H.out.mono ?_;rintro e w1 ⟨g,rfl,h1⟩;go_wp2_with fail;exact⟨rfl,g,rfl,h1⟩
theorem AJ(rb E k d:Nat)(T:List Rd.Tok)(en p:Nat)(hk:k < 3)(h:mB rb E (k+1) d T (.bad en p)):mB rb E k d T (.bad en p):=by
 intro w henv hr;have h1:Calls Tryz.prog 138 #[.pointer (some ⟨rb,0,none⟩),.int .i64 ((k:Int)+1),.int .i64 (d:Nat)] w (gj w rb E (.bad en p)):=h w henv hr;unfold gj aC at h1⊢;have H:=hid h1;have k3:((k:Int)==3)=false:=by rw[Z8];omega
 clear h h1 henv hr;go_enter Tryz.func138,Tryz.ntmps138;go_wp2_with fail;refine H.out.mono ?_;rintro e w1 ⟨g,rfl,h1⟩;go_wp2_with fail;exact⟨rfl,g,rfl,h1⟩
theorem xA(rb E k d:Nat)(T T1:List Rd.Tok)(x:X)(o:Ex.Out)(hk:k < 3)(h:mB rb E (k+1) d T (.ok x T1))(hch:iU rb E k x d T1 o):mB rb E k d T o:=by
 intro w henv hr;have h1:Calls Tryz.prog 138 #[.pointer (some ⟨rb,0,none⟩),.int .i64 ((k:Int)+1),.int .i64 (d:Nat)] w (gj w rb E (.ok x T1)):=h w henv hr;have H:=hid h1;have HE:=hid henv;have HL:=hid hr.lt;have HCH:=hid hch;have k3:((k:Int)==3)=false:=by rw[Z8];omega
 have ki:(k:Int) < 3:=by omega
 obtain⟨n,hn⟩:∃n,n=(levels k).length:=⟨_,rfl⟩;have hn4:n≤4:=by rw[hn];exact lA k
 have HN:=hid hn;clear h h1 henv hr hch hn;go_enter Tryz.func138,Tryz.ntmps138;go_wp2_with fail;refine H.out.mono ?_;rintro e w1 ⟨b,rfl,hx1,hr1,hg1⟩;have HX1:=hid hx1;have HR1:=hid hr1;have HG1:=hid hg1;clear hx1 hr1 hg1 H;go_wp2_with fail;go_loopw [7] (fun v7 wr=>∃(b:Nat) (y:X) (T2:List Rd.Tok),v7= .pointer (some ⟨b,0,none⟩)∧Hid (IsX wr rb b y)∧Hid (Rdr wr rb T2 E)∧Hid (iU rb E k y d T2 o)∧Hid (w.grownBy wr (some rb))) (fun _ wr=>Rd.leftOf wr rb)
 case atStart=>exact⟨b,x,T1,rfl,HX1,HR1,HCH,HG1⟩
 case round=>
  clear HX1 HR1 HCH HG1;obtain⟨b,y,T2,rfl,HX,HR,HCH,HG⟩:=hrel;have HA:=hid (bS rb T2 E wr HR.out);have HEr:=hid (HE.out.grown HG.out HL.out);obtain⟨gk,ck,hlk,hgk,hrow⟩:=HEr.out.lv.2 k hk;rw[← HN.out]at hlk hrow;have HROW:=hid hrow;clear hrow;go_wp2_with fail;refine HA.out.mono ?_;rintro e w0 ⟨rfl,rfl⟩;obtain⟨at_,hat⟩:∃a,a=Ex.dP E T2:=⟨_,rfl⟩;rw[← hat];have HAT:=hid hat;clear hat HA;go_wp2_with fail;go_loopw [8,28] (fun v8 v28 wr=>∃(j:Nat) (op:List UInt8),v28= .int .i64 j∧v8= .string (aa op)∧j≤n∧Hid (Rd.Found wr rb E k j T2 op)∧Hid (w0.grownBy wr (some rb))) (fun _ v28 _=>n - (intOf v28).toNat)
  case atStart=>exact⟨0,[],rfl,rfl,by omega,hid (.inl ⟨rfl,fun i hi=>by omega,HR.out⟩),hid (kG _ _)⟩
  case round=>
   obtain⟨j,op,rfl,rfl,hj,HF,HG2⟩:=hrel;have hrb:rb < w0.heap.size:=HR.out.lt;have hcellj:∀i,i < n→wr.cell? (gk.add i)=some (.string (aa ((levels k).getD i []))):=fun i hi=>
    (World.cell?_of_block (a:=gk.add i) (by rw[Addr.cM];exact HG2.out.block gk.block (Nat.lt_trans hgk hrb) (fun e=>by injection e with e;omega))).trans (HROW.out i hi)
   by_cases hlt:j < n
   ·have cj:=hcellj j hlt;have d1:decide ((j:Int) < (n:Int))=true:=Z9 (by omega);have d1n:decide (j < n)=true:=Z9 hlt;have hji:(j:Int) < (n:Int):=by omega
    obtain⟨hsn,hsm⟩:=rz k j (by rw[← HN.out];exact hlt);obtain⟨sj,hsj⟩:∃sj,sj=(levels k).getD j []:=⟨_,rfl⟩;rw[← hsj]at cj hsn hsm;have HSJ:=hid hsj;have HSM:=hid hsm;have HLT:=hid hlt;clear hcellj hsj hsm hlt;rcases HF.out with⟨rfl,hno,hr2⟩|⟨t,T3,hT,htm,rfl,htn,hr3⟩
    ·by_cases hh:ak T2=sj
     ·cases T2 with
      |nil=>exact absurd hh.symm hsn
      |cons t T3=>
       have hts:t.1=sj:=hh;have hty:=ez rb t T3 E wr hr2 (by rw[hts];exact hsn);rw[hts]at hty;have HTY:=hid hty;have HTS:=hid hts;have HSN:=hid hsn;clear hty hts hh hno hr2 hsn;go_wp2_with fail;refine HTY.out.mono ?_;rintro e w3 ⟨rfl,hr3,hg3⟩;have HF3:Hid (Rd.Found w3 rb E k (j+1) (t::T3) sj):=hid (.inr ⟨t,T3,rfl,by rw[HTS.out];exact HSM.out,HTS.out.symm,by rw[HTS.out];exact HSN.out,hr3⟩);have HG3:=hid (ah HG2.out hg3);clear hr3 hg3;go_wp2_with fail;go_roundw
       case rel=>exact⟨j+1,sj,by go_num,rfl,by have:=HLT.out;omega,HF3,HG3⟩
       case measure=>simp[intOf];have:=HLT.out;omega
     ·have HTN:=hid (dn rb T2 E sj wr hr2 hsn hh);have HF3:Hid (Rd.Found wr rb E k (j+1) T2 []):=hid (.inl ⟨rfl,fun i hi=>by
       by_cases e:i=j
       ·rw[e,← HSJ.out];exact fun e=>hh e.symm
       ·exact hno i (by omega),hr2⟩)
      clear hh hno hr2 hsn;go_wp2_with fail;refine HTN.out.mono ?_;rintro e w3 ⟨rfl,rfl⟩;go_wp2_with fail;go_roundw
      case rel=>exact⟨j+1,[],by go_num,rfl,by have:=HLT.out;omega,HF3,HG2⟩
      case measure=>simp[intOf];have:=HLT.out;omega
    ·have HF3:Hid (Rd.Found wr rb E k (j+1) T2 t.1):=hid (.inr ⟨t,T3,hT,htm,rfl,htn,hr3⟩);have oe:(t.1==[])=false:=by rw[Z8];exact htn
     have oe2:t.1.isEmpty=false:=by cases h9:t.1 with|nil=>exact absurd h9 htn|cons a b=>rfl
     clear hT htm htn hr3 hsn;generalize t.1=op at *
     go_wp2_with fail;go_roundw
     case rel=>exact⟨j+1,op,by go_num,rfl,by have:=HLT.out;omega,HF3,HG2⟩
     case measure=>simp[intOf];have:=HLT.out;omega
   ·obtain rfl:j=n:=by omega
    have d1:decide ((j:Int) < (j:Int))=false:=by simp
    clear hcellj;have HR2:Hid (rb < w0.heap.size):=hid hrb;clear hrb;rcases HF.out with⟨rfl,hno,hr2⟩|⟨t,T3,hT,htm,rfl,htn,hr3⟩
    ·have hstop:o= .ok y T2:=HCH.out.stop (fun t T' e=>oZ fun i hi=>by
      have:=hno i (by rw[HN.out];exact hi);rw[e]at this;exact this)
     subst hstop;have HX2:=hid (IsX.grown HG2.out y b HX.out);have HRR:=hid hr2;clear hno hr2;go_wp2_with fail;go_ret;exact⟨b,rfl,HX2.out,HRR.out,ah HG.out HG2.out⟩
    ·subst hT;have oe:(t.1==[])=false:=by rw[Z8];exact htn
     have oe2:t.1.isEmpty=false:=by cases h9:t.1 with|nil=>exact absurd h9 htn|cons a b=>rfl
     have hat2:at_=t.2:=HAT.out;have HEw:=hid (HEr.out.grown HG2.out HR2.out);have HLW:=hid (Nat.lt_of_lt_of_le HR2.out HG2.out.size);have HX2:=hid (IsX.grown HG2.out y b HX.out);have HR3:=hid hr3;have HGG:=hid (ah HG.out HG2.out);have hleft:=HR.out.left;rw[Z6]at hleft;have HLF:=hid hleft;rcases HCH.out.go htm with⟨z,T',hC,hle,hch2⟩|⟨en,p,hC,rfl⟩
     ·rw[← hat2]at hch2;have h2:Calls Tryz.prog 138 #[.pointer (some ⟨rb,0,none⟩),.int .i64 ((k:Int)+1),.int .i64 (d:Nat)] wr (gj wr rb E (.ok z T')):=hC wr HEw.out HR3.out;have H2:=hid h2;have HLE:=hid hle;have HCH2:=hid hch2;clear h2 hle hch2 hC htm htn hr3 hleft hat2 HCH HF HAT;generalize t.1=op at *
      go_wp2_with fail;refine H2.out.mono ?_;rintro e w4 ⟨bz,rfl,hx4,hr4,hg4⟩;have hrow:=ad.new w4 202 #[.int .i64 3,.int .i64 (at_:Nat),.int .i64 0,.string ByteArray.empty,.string (aa op),.pointer (some ⟨b,0,none⟩),.pointer (some ⟨bz,0,none⟩)];have hb:=(Y4 w4.heap.size w4).alloc (Z5 _) (.cells #[.int .i64 3,.int .i64 (at_:Nat),.int .i64 0,.string ByteArray.empty,.string (aa op),.pointer (some ⟨b,0,none⟩),.pointer (some ⟨bz,0,none⟩)] 202);have hrr:=hr4.below hb;have hlr:=hrr.left;have HF4:Hid (IsX (w4.alloc (.cells #[.int .i64 3,.int .i64 (at_:Nat),.int .i64 0,.string ByteArray.empty,.string (aa op),.pointer (some ⟨b,0,none⟩),.pointer (some ⟨bz,0,none⟩)] 202)) rb w4.heap.size (.bin at_ op y z)∧Rdr (w4.alloc (.cells #[.int .i64 3,.int .i64 (at_:Nat),.int .i64 0,.string ByteArray.empty,.string (aa op),.pointer (some ⟨b,0,none⟩),.pointer (some ⟨bz,0,none⟩)] 202)) rb T' E∧w.grownBy (w4.alloc (.cells #[.int .i64 3,.int .i64 (at_:Nat),.int .i64 0,.string ByteArray.empty,.string (aa op),.pointer (some ⟨b,0,none⟩),.pointer (some ⟨bz,0,none⟩)] 202)) (some rb)):=
       hid ⟨⟨b,bz,Nat.lt_of_lt_of_le HLW.out hg4.size,hrow,IsX.grown (ar hb _) y b (IsX.grown hg4 y b HX2.out),IsX.grown (ar hb _) z bz hx4⟩,hrr,ah (ah HGG.out hg4) (ar hb _)⟩
      have HLR:=hid hlr;clear hx4 hr4 hg4 hrow hb hrr hlr;go_wp2_with fail;go_roundw
      case rel=>exact⟨w4.heap.size,.bin at_ op y z,T',rfl,hid HF4.out.1,hid HF4.out.2.1,HCH2,hid HF4.out.2.2⟩
      case measure=>
       refine Nat.lt_of_le_of_lt (Nat.le_of_eq HLR.out) ?_;rw[HLF.out];have h3:=HLE.out;omega
     ·have h2:Calls Tryz.prog 138 #[.pointer (some ⟨rb,0,none⟩),.int .i64 ((k:Int)+1),.int .i64 (d:Nat)] wr (gj wr rb E (.bad en p)):=hC wr HEw.out HR3.out;unfold gj aC at h2;have H2:=hid h2;clear h2 hC htm htn hr3 hleft hat2 HCH HF HAT;generalize t.1=op at *
      go_wp2_with fail;refine H2.out.mono ?_;rintro e w4 ⟨g,rfl,h1,h3,h4⟩;have H1:=hid h1;have H3:=hid (Nat.le_trans HGG.out.size h3);have HG4:=hid (ah HGG.out h4);clear h1 h3 h4;go_wp2_with fail;exact⟨rfl,by unfold gj aC;exact⟨g,rfl,H1.out,H3.out,HG4.out⟩⟩
theorem EF{E:Nat}{c:Ex.Cat}{d:Nat}{T:List Rd.Tok}{o:Ex.Out}(h:Ex.Par Num.numOf E c d T o)(rb:Nat):(∀t∈T,t.1.length≤100000)→
  match c with
  | .lev k=>mB rb E k d T o
  | .one=>mC rb E d T o
  | .loop k x=>Rd.iU rb E k x d T o:=by
 induction h with
 |@top d T o _ ih=>
  intro hT;cases o with
  |ok x R=>exact sS rb E d T x R (ih hT)
  |bad e p=>exact qN rb E d T e p (ih hT)
 |@lev k d T T' x o hk hp _ ih1 ih2=>
  intro hT;exact xA rb E k d T T' x o hk (ih1 hT) (ih2 fun t ht=>hT t ((hp.less _ _ rfl).1.subset ht))
 |@gJ k d T e p hk _ ih=>intro hT;exact AJ rb E k d T e p hk (ih hT)
 |done h=>intro hT;exact .done h
 |@more k x d t T T' y o ht hp _ ih1 ih2=>
  intro hT;exact .more ht (ih1 fun t ht=>hT t (by simp[ht])) (hp.less _ _ rfl).1.length_le (ih2 fun t ht=>hT t (by have:=(hp.less _ _ rfl).1.subset ht;simp[this]))
 |dJ ht _ ih=>intro hT;exact .dJ ht (ih fun t ht=>hT t (by simp[ht]))
 |@paren d t T u T' x h1 h2 _ h3 ih=>intro hT;exact AI rb E d t u T T' x h1 h2 (sP rb E (d+1) T x (u::T') (ih fun t ht=>hT t (by simp[ht]))) h3
 |@bH d t T T' x h1 h2 _ h3 ih=>intro hT;exact qM rb E d t T T' x h1 h2 (sP rb E (d+1) T x T' (ih fun t ht=>hT t (by simp[ht]))) h3
 |@cw d t T e p h1 h2 _ ih=>intro hT;exact sQ rb E d t T e p h1 h2 (ux rb E (d+1) T e p (ih fun t ht=>hT t (by simp[ht])))
 |@deep t T h1=>intro hT;exact CP rb E t T h1
 |@name d t T c r h1 h2 h3=>intro hT;exact CQ rb E d t T c r h1 h2 h3
 |@cy d t T c r h1 h2 h3=>intro hT;exact sR rb E d t T c r h1 h2 h3
 |@none d=>intro hT;exact CS rb E d
 |@mark d t T c r h1 h2 h3 h4=>intro hT;exact CT rb E d t T c r h1 h2 h3 h4
 |@num d t T c r n h1 h2 h3=>intro hT;exact one_num rb E d t T c r n h1 h2 h3 (hT t (by simp))
 |@dU d t T c r e h1 h2 h3=>intro hT;exact xy rb E d t T c r e h1 h2 h3 (hT t (by simp))
theorem CU{E d:Nat}{T:List Rd.Tok}{o:Ex.Out}(h:Ex.Par Num.numOf E (.lev 0) d T o)(rb:Nat)(hT:∀t∈T,t.1.length≤100000):rp rb E d T o:=by
 have hC:=EF h rb hT;cases o with
 |ok x R=>exact sP rb E d T x R hC
 |bad e p=>exact ux rb E d T e p hC
end
section
open Go.RowKit
open Rd
namespace Rd
theorem sT(T:List Tok):(bY T).length=T.length * 2:=by
 induction T with
 |nil=>rfl
 |cons t T ih=>simp only[bY,List.flatMap_cons,Z7,Z6]at ih⊢;rw[ih];simp[eR];omega
theorem sU:∀(T:List Tok) (k:Nat),k < T.length→(bY T)[k * 2]? =some (.string (aa (T.getD k ([],0)).1))∧(bY T)[k * 2+1]? =some (.int .i64 ((T.getD k ([],0)).2:Nat)):=by
 intro T
 induction T with
 |nil=>intro k h;simp at h
 |cons t T ih=>
  intro k h;have e:bY (t::T)=eR t++bY T:=by simp[bY]
  cases k with
  |zero=>rw[e];simp[eR]
  |succ k=>
   have:=ih k (by simpa using h);rw[e,List.getD_cons_succ,show(k+1) * 2=(eR t).length+k * 2 by simp[eR];omega,List.getElem?_append_right (by omega),show(eR t).length+k * 2+1=(eR t).length+(k * 2+1) by omega,List.getElem?_append_right (by omega)];simpa using this
theorem AK{w:World}{B n cap rb:Nat}{a:Option Addr}{T:List Tok}(h:an w B 162 2 a n cap (bY T))(hrb:w.heap.size≤rb):zu w rb a T:=by
 cases a with
 |none=>
  have h3:=h.aO.2.2;left;cases T with
  |nil=>rfl
  |cons t T=>simp[bY,eR]at h3
 |some x=>
  obtain⟨h1,h2,h3,h4,h5⟩:=h.row;refine .inr ⟨x.block,0,by rw[← h1],Nat.lt_of_lt_of_le h5.lt hrb,fun j hj=> ?_⟩;obtain⟨g1,g2⟩:=sU T j hj;have hl:=sT T;have c1:=h5.cell0 (j * 2) (by omega);have c2:=h5.cell0 (j * 2+1) (by omega);rw[Y1 (by omega:j * 2 < (bY T).length)]at g1;rw[Y1 (by omega:j * 2+1 < (bY T).length)]at g2;rw[Nat.zero_add];exact⟨by rw[c1];exact g1,by rw[c2];exact g2⟩
theorem xB{w:World}{B n cap:Nat}{a:Option Addr}{T:List Tok}(h:an w B 162 2 a n cap (bY T)):∀(W:World) (rb:Nat),w.heap.size≤rb→(∀k,B≤k→k < w.heap.size→W.heap[k]? =w.heap[k]?)→zu W rb a T:=by
 intro W rb hrb hW;rcases AK h hrb with h1|⟨g,off,h1,h2,h3⟩
 ·exact .inl h1
 ·subst h1;have hb:=hW g h.lt.1 h.lt.2;exact .inr ⟨g,off,rfl,h2,fun j hj=>⟨(World.cell?_of_block (a:=⟨g,off+j * 2,none⟩) hb).trans (h3 j hj).1,(World.cell?_of_block (a:=⟨g,off+j * 2+1,none⟩) hb).trans (h3 j hj).2⟩⟩
theorem aT{w:World}{B n cap:Nat}{a:Option Addr}{xs:List Value}{size:Nat}{e:TypeId}(h:an w B e size a n cap xs):n≤cap:=by
 cases a with
 |none=>have:=h.aO;omega
 |some x=>exact h.row.2.2.1
end Rd
theorem uy(s:List UInt8)(w:World)(hs:s.length≤3000)(hm:ec w)(hn:Lex.cZ s 0=none):
  Calls Tryz.prog 48 #[.string (aa s)] w fun e w'=>(∃g,e= .returned (.tuple #[.pointer none,.iface 120 (.pointer (some ⟨g,0,none⟩))]))∧Below w.heap.size w w':=by
 have hL:Calls Tryz.prog 84 #[.string (aa s)] w fun e w'=>(∃g,e= .returned (.tuple #[.slice none 0 0,.iface 120 (.pointer (some ⟨g,0,none⟩))]))∧Below w.heap.size w w':=(zt s w hs hm).mono fun e w' ⟨hb,h⟩=>by
  rcases h with⟨T,a,cap,h1,_⟩|⟨_,g,h2⟩
  ·rw[hn]at h1;cases h1
  ·exact⟨⟨g,h2⟩,hb⟩
 have HL:=hid hL;clear hL hs hm hn;go_enter Tryz.func48,Tryz.ntmps48;go_wp2_with fail;refine HL.out.mono ?_;rintro e w1 ⟨⟨g,rfl⟩,hb⟩;go_wp2_with fail;go_ret2;exact⟨⟨g,rfl⟩,hb⟩
theorem xC(s:List UInt8)(T:List Rd.Tok)(w:World)(hs:s.length≤3000)(hm:ec w)(hn:Lex.cZ s 0=some T):
  Calls Tryz.prog 48 #[.string (aa s)] w fun e w'=>∃rb,e= .returned (.tuple #[.pointer (some ⟨rb,0,none⟩),.nilIface])∧(∀W:World,(∀k,w.heap.size≤k→k < w'.heap.size→W.heap[k]? =w'.heap[k]?)→Rdr W rb T s.length)∧w.heap.size≤rb∧rb < w'.heap.size∧Below w.heap.size w w':=by
 have hL:Calls Tryz.prog 84 #[.string (aa s)] w fun e w'=>∃a cap,e= .returned (.tuple #[.slice a T.length cap,.nilIface])∧T.length≤cap∧(∀(W:World) (rb:Nat),w'.heap.size≤rb→(∀k,w.heap.size≤k→k < w'.heap.size→W.heap[k]? =w'.heap[k]?)→zu W rb a T)∧Below w.heap.size w w':=(zt s w hs hm).mono fun e w' ⟨hb,h⟩=>by
  rcases h with⟨T',a,cap,h1,h2,h3⟩|⟨h1,_⟩
  ·rw[hn]at h1;cases h1;exact⟨a,cap,h2,aT h3,xB h3,hb⟩
  ·rw[hn]at h1;cases h1
 have HL:=hid hL;clear hL hs hm hn;go_enter Tryz.func48,Tryz.ntmps48;go_wp2_with fail;refine HL.out.mono ?_;rintro e w1 ⟨a,cap,rfl,hc,ht,hb⟩;have hrow:=ad.new w1 157 #[.slice a T.length cap,.int .i64 (s.length:Nat)];have hb2:=(Y4 w1.heap.size w1).alloc (Z5 _) (.cells #[.slice a T.length cap,.int .i64 (s.length:Nat)] 157);have HR:Hid ((∀W:World,(∀k,w.heap.size≤k→k < (w1.alloc (.cells #[.slice a T.length cap,.int .i64 (s.length:Nat)] 157)).heap.size→W.heap[k]? =(w1.alloc (.cells #[.slice a T.length cap,.int .i64 (s.length:Nat)] 157)).heap[k]?)→Rdr W w1.heap.size T s.length)∧w.heap.size≤w1.heap.size∧w1.heap.size < (w1.alloc (.cells #[.slice a T.length cap,.int .i64 (s.length:Nat)] 157)).heap.size∧Below w.heap.size w (w1.alloc (.cells #[.slice a T.length cap,.int .i64 (s.length:Nat)] 157))):=hid ⟨fun W hW=>⟨a,cap,hrow.of_heap (hW w1.heap.size hb.size (by simp)),hc,ht W w1.heap.size (Z5 _) fun k h1 h2=>(hW k h1 (by simp;omega)).trans (hb2.block k h2)⟩,hb.size,by simp,hb.trans (hb2.mono hb.size)⟩;clear hrow hb2 hc ht hb;go_wp2_with fail;go_ret2;exact⟨_,rfl,HR.out⟩
theorem fB(pb:Nat)(x:Value)(g:Nat)(older:List PanicEntry)(w:World)(hc:w.cell? ⟨pb,0,none⟩=some x)(hz:w.frozen? ⟨pb,0,none⟩=false)(hp:pb < w.heap.size):
  CallsD Tryz.prog 49 #[.pointer (some ⟨pb,0,none⟩)] (.panicking ({v:= .iface 159 (.agg #[.iface 120 (.pointer (some ⟨g,0,none⟩))]),recovered:=false}::older)) w fun e u' w'=>
   e= .returned (.tuple #[])∧u'= .panicking ({v:= .iface 159 (.agg #[.iface 120 (.pointer (some ⟨g,0,none⟩))]),recovered:=true}::older)∧∃o,w'=(w.setCell ⟨pb,0,none⟩ (.iface 120 (.pointer (some ⟨g,0,none⟩)))).alloc o:=by
 refine callsD_of_wpS Tryz.func49 rfl fun c₀ cs hu=> ?_
 simp only[Tryz.ntmps49,List.size_toArray,Z6,Y3,Nat.reduceAdd,Nat.reduceSub,Array.replicate_succ,Array.replicate_zero,List.push_toArray,List.append_toArray,List.nil_append,List.cons_append];apply wpS_seq;apply wpS_region;simp[wpOpsS,go_sem,recoverD,hu,Tryz.ntmps49,Exit.thenS];refine wpS_of_wp ?_;have hta:∀V:World,(Instr.typeAssert (.iface 159 (.agg #[.iface 120 (.pointer (some ⟨g,0,none⟩))])) 20 159 true).run Tryz.prog V= .ok (.tuple #[.agg #[.iface 120 (.pointer (some ⟨g,0,none⟩))],.bool true]) V:=fun V=>by kernel_rfl
 go_wp2_with fail;exact⟨rfl,_,rfl,.tuple #[],results_none rfl _ _ _,rfl,rfl,_,rfl⟩
theorem xD(pb:Nat)(w:World):
  CallsD Tryz.prog 49 #[.pointer (some ⟨pb,0,none⟩)] .returning w fun e u' w'=>e= .returned (.tuple #[])∧u'= .returning∧w'=w:=by
 refine callsD_of_wpS Tryz.func49 rfl fun c₀ cs hu=> ?_
 simp only[Tryz.ntmps49,List.size_toArray,Z6,Y3,Nat.reduceAdd,Nat.reduceSub,Array.replicate_succ,Array.replicate_zero,List.push_toArray,List.append_toArray,List.nil_append,List.cons_append];apply wpS_seq;apply wpS_region;simp[wpOpsS,go_sem,recoverD,hu,Tryz.ntmps49,Exit.thenS];refine wpS_of_wp ?_;go_wp2_with fail;cases c₀
 simp_all[bodyPostS,results,Tryz.results49]
end
section
open Go.RowKit
open Rd
open Ex (X)
theorem IsX.mono{w:World}{rb rb':Nat}(h:rb'≤rb):∀(x:X) (b:Nat),IsX w rb b x→IsX w rb' b x
 | .num a n,b,hx=>⟨Nat.lt_of_le_of_lt h hx.1,hx.2⟩
 | .name a s,b,hx=>⟨Nat.lt_of_le_of_lt h hx.1,hx.2⟩
 | .bin a op l r,b,hx=>by
  obtain⟨bl,br,h1,h2,h3,h4⟩:=hx;exact⟨bl,br,Nat.lt_of_le_of_lt h h1,h2,IsX.mono h l bl h3,IsX.mono h r br h4⟩
structure PS(w w2:World)(rb:Nat)(T:List Rd.Tok)(E:Nat):Prop where
 rd:Rdr w2 rb T E
 env:Env w2 rb
 box:ad w2 w.heap.size 0 30 [.nilIface]
 lt:w.heap.size < rb
 bel:Below w.heap.size w w2
theorem PS.mk'{w w1:World}{rb:Nat}{T:List Rd.Tok}{E:Nat}(he:Env w w.heap.size)(hr:∀W:World,(∀k,(w.alloc (.cells #[.nilIface] 30)).heap.size≤k→k < w1.heap.size→W.heap[k]? =w1.heap[k]?)→Rdr W rb T E)(h1:(w.alloc (.cells #[.nilIface] 30)).heap.size≤rb)(hb:Below (w.alloc (.cells #[.nilIface] 30)).heap.size (w.alloc (.cells #[.nilIface] 30)) w1):
  PS w (w1.setCell ⟨w.heap.size,0,none⟩ .nilIface) rb T E:=by
 have hbox:=(ad.new w 30 #[.nilIface]).below hb (by simp);have hbb:Below w.heap.size w w1:=((Y4 _ w).alloc (Z5 _) _).trans (hb.mono (by simp));have hset:=Below.setCell (p:=⟨w.heap.size,0,none⟩) hbb (Z5 _) .nilIface;simp only[World.size_alloc]at h1 hr;have key:∀(p:Addr),p.block < w.heap.size→(w1.setCell ⟨w.heap.size,0,none⟩ .nilIface).cell? p=w.cell? p:=fun p h=>hset.cell (p:=p) h
 refine⟨hr _ fun k hk _=>Below.heap_setCell w1 ⟨w.heap.size,0,none⟩ .nilIface k (by show k≠w.heap.size;omega),⟨⟨by have:=he.lv.1;omega,fun k hk=> ?_⟩,(key ⟨_,0,none⟩ he.eb).trans he.er,by have:=he.eb;omega⟩,hbox.aw 0 (by simp) .nilIface,by omega,hset⟩;obtain⟨gk,ck,e1,e2,e3⟩:=he.lv.2 k hk;exact⟨gk,ck,(key ⟨_,k,none⟩ he.lv.1).trans e1,by omega,fun j hj=>(key (gk.add j) (by rw[Addr.cM];exact e2)).trans (e3 j hj)⟩
end
section
open Go.RowKit
open Rd
open Ex (X levels)
theorem uz(k:Nat)(hk:k < 3)(a b c:Value)(w:World):(Instr.index 237 (.agg #[a,b,c]) (.int .i64 (k:Nat))).run Tryz.prog w= .ok (match k with|0=>a|1=>b|_=>c) w:=by
 rcases(by omega:k=0∨k=1∨k=2)with rfl|rfl|rfl
 ·kernel_rfl
 ·kernel_rfl
 ·kernel_rfl
structure Tab(w:World)(g:Nat→Addr)(c:Nat→Nat):Prop where
 cell:∀k,k < 3→w.cell? ⟨2,k,none⟩=some (.slice (some (g k)) (levels k).length (c k))
 row:∀k,k < 3→∀j,j < (levels k).length→w.cell? ((g k).add j)=some (.string (aa ((levels k).getD j [])))
theorem Gi{w:World}{rb:Nat}(h:db w rb):∃g c,Tab w g c:=by
 obtain⟨g0,c0,h0,_,r0⟩:=h.2 0 (by omega);obtain⟨g1,c1,h1,_,r1⟩:=h.2 1 (by omega);obtain⟨g2,c2,h2,_,r2⟩:=h.2 2 (by omega);refine⟨fun k=>match k with|0=>g0|1=>g1|_=>g2,fun k=>match k with|0=>c0|1=>c1|_=>c2,fun k hk=> ?_,fun k hk=> ?_⟩
 ·rcases(by omega:k=0∨k=1∨k=2)with rfl|rfl|rfl
  ·exact h0
  ·exact h1
  ·exact h2
 ·rcases(by omega:k=0∨k=1∨k=2)with rfl|rfl|rfl
  ·exact r0
  ·exact r1
  ·exact r2
def iz(g:Nat→Addr)(c:Nat→Nat)(k:Nat):Value:= .slice (some (g k)) (levels k).length (c k)
theorem AL{w:World}{g:Nat→Addr}{c:Nat→Nat}(h:Tab w g c):∀j v,(#[iz g c 0,iz g c 1,iz g c 2]:Array Value).toList[j]? =some v→w.cell? ⟨2,j,none⟩=some v:=by
 intro j v hv;have hj:j < 3:=by
  rcases Nat.lt_or_ge j 3 with h|h
  ·exact h
  ·rw[List.getElem?_eq_none (by simpa using h)]at hv;cases hv
 rcases(by omega:j=0∨j=1∨j=2)with rfl|rfl|rfl
 ·cases hv;exact h.cell 0 (by omega)
 ·cases hv;exact h.cell 1 (by omega)
 ·cases hv;exact h.cell 2 (by omega)
theorem AM(g:Nat→Addr)(c:Nat→Nat)(k:Nat)(hk:k < 3)(w:World):(Instr.index 237 (.agg #[iz g c 0,iz g c 1,iz g c 2]) (.int .i64 (k:Nat))).run Tryz.prog w= .ok (.slice (some (g k)) (levels k).length (c k)) w:=by
 rw[uz k hk];rcases(by omega:k=0∨k=1∨k=2)with rfl|rfl|rfl <;> rfl
theorem sV(op:List UInt8)(h:∀k,k < 3→op∉levels k):Ex.aD op=3:=by
 unfold Ex.aD;rw[if_neg (h 0 (by omega)),if_neg (h 1 (by omega)),if_neg (h 2 (by omega))]
theorem o7(b:Nat)(code:Int)(op:List UInt8)(g:Nat→Addr)(c:Nat→Nat)(w:World)(hT:Tab w g c)(h0:w.cell? ⟨b,0,none⟩=some (.int .i64 code))(h4:w.cell? ⟨b,4,none⟩=some (.string (aa op))):
  Calls Tryz.prog 134 #[.pointer (some ⟨b,0,none⟩)] w fun e w'=>e= .returned (.int .i64 ((if code=3 then Ex.aD op else 3:Nat):Int))∧w'=w:=by
 obtain⟨R,hR⟩:∃R,R=(if code=3 then Ex.aD op else 3):=⟨_,rfl⟩;have HR:=hid hR;rw[← hR];have HT:=hid hT;obtain⟨is3,h3⟩:∃is3:Bool,is3=(code==3):=⟨_,rfl⟩;have H3:=hid h3;have e3:(code==3)=is3:=h3.symm;clear hR hT h3;go_enter Tryz.func134,Tryz.ntmps134;go_wp2_with (with_reducible refine gA rfl 237 _ rfl 2 rfl #[iz g c 0,iz g c 1,iz g c 2] _ (AL HT.out) Tryz.underlying237 rfl rfl ?_);go_loop [8] (fun v8=>∃k:Nat,v8= .int .i64 k∧k≤3∧Hid (is3=true→∀i,i < k→op∉levels i)) (fun v8=>3 - (intOf v8).toNat)
 case atStart=>exact⟨0,rfl,by omega,hid (fun _ i hi=>by omega)⟩
 case round=>
  obtain⟨k,rfl,hk,HK⟩:=hrel
  by_cases hlt:k < 3
  ·have d1:decide ((k:Int) < 3)=true:=Z9 (by omega);have d1n:decide (k < 3)=true:=Z9 hlt;have hidx:=AM g c k hlt;have hrow:=HT.out.row k hlt;obtain⟨n,hn⟩:∃n,n=(levels k).length:=⟨_,rfl⟩;have hn4:n≤4:=by rw[hn];exact lA k
   rw[← hn]at hidx hrow;have HN:=hid hn;have HLT:=hid hlt;have HROW:=hid hrow;clear hn hlt hrow;go_wp2_with fail;go_loop [14] (fun v14=>∃j:Nat,v14= .int .i64 j∧j≤n∧Hid (is3=true→∀i,i < j→(levels k).getD i []≠op)) (fun v14=>n - (intOf v14).toNat)
   case atStart=>exact⟨0,rfl,by omega,hid (fun _ i hi=>by omega)⟩
   case round=>
    obtain⟨j,rfl,hj,HJ⟩:=hrel
    by_cases hjt:j < n
    ·have d2:decide ((j:Int) < (n:Int))=true:=Z9 (by omega);have d2n:decide (j < n)=true:=Z9 hjt;have hji:(j:Int) < (n:Int):=by omega
     have cj:=HROW.out j hjt;obtain⟨sj,hsj⟩:∃sj,sj=(levels k).getD j []:=⟨_,rfl⟩;have hsm:=(rz k j (by rw[← HN.out];exact hjt)).2;rw[← hsj]at cj hsm;have HSJ:=hid hsj;have HSM:=hid hsm;have HJT:=hid hjt;clear hsj hsm hjt;cases is3 with
     |true=>
      by_cases hh:op=sj
      ·subst hh;have hRk:R=k:=by
        rw[HR.out,if_pos (by have:=H3.out;exact beq_iff_eq.1 this.symm)];exact(Ex.cG k _ HSM.out).2.1
       have HRK:=hid hRk;clear hRk;go_wp2_with fail;go_ret;exact⟨by rw[HRK.out];rfl,rfl⟩
      ·have hne:(op==sj)=false:=by rw[Z8];exact hh
       have HNE:Hid (true=true→∀i,i < j+1→(levels k).getD i []≠op):=hid fun _ i hi=>by
        by_cases e:i=j
        ·rw[e,← HSJ.out];exact fun e=>hh e.symm
        ·exact HJ.out rfl i (by omega)
       clear hh;go_wp2_with fail;go_round
       case rel=>exact⟨j+1,by go_num,by have:=HJT.out;omega,hid (fun _=>HNE.out rfl)⟩
       case measure=>simp[intOf];have:=HJT.out;omega
     |false=>
      go_wp2_with fail;go_round
      case rel=>exact⟨j+1,by go_num,by have:=HJT.out;omega,hid (by intro h;cases h)⟩
      case measure=>simp[intOf];have:=HJT.out;omega
    ·obtain rfl:j=n:=by omega
     have d2:decide ((j:Int) < (j:Int))=false:=by simp
     go_wp2_with fail;go_round
     case rel=>
      refine⟨k+1,by go_num,by have:=HLT.out;omega,hid (fun h i hi=> ?_)⟩
      by_cases e:i=k
      ·rw[e];exact oZ (fun a ha=>HJ.out h a (by rw[HN.out];exact ha))
      ·exact HK.out h i (by omega)
     case measure=>simp[intOf];have:=HLT.out;omega
  ·obtain rfl:k=3:=by omega
   have hR3:R=3:=by
    rw[HR.out];split
    ·rename_i h
     exact sV op (fun i hi=>HK.out (by rw[H3.out];exact beq_iff_eq.2 h) i hi)
    ·rfl
   have HR3:=hid hR3;clear hR3;go_wp2_with fail;go_ret;exact⟨by rw[HR3.out];rfl,rfl⟩
theorem CV{w:World}{rb b:Nat}{x:X}(hl:db w rb)(h:IsX w rb b x):Calls Tryz.prog 134 #[.pointer (some ⟨b,0,none⟩)] w fun e w'=>e= .returned (.int .i64 ((Ex.hold x:Nat):Int))∧w'=w:=by
 obtain⟨g,c,hT⟩:=Gi hl;cases x with
 |num a n=>
  have c0:=h.2.cell0 0 (by simp);have c4:=h.2.cell0 4 (by simp);exact o7 b 1 [] g c w hT c0 c4
 |name a s=>
  have c0:=h.2.cell0 0 (by simp);have c4:=h.2.cell0 4 (by simp);exact o7 b 2 [] g c w hT c0 c4
 |bin a op l r=>
  obtain⟨bl,br,h1,h2,_⟩:=h;have c0:=h2.cell0 0 (by simp);have c4:=h2.cell0 4 (by simp);exact o7 b 3 op g c w hT c0 c4
def o8(x:X):Prop:=∀(w:World) (rb b:Nat),db w rb→rb≤w.heap.size→IsX w rb b x→(Ex.pr Num.dec x).length≤1000000→
 Calls Tryz.prog 108 #[.pointer (some ⟨b,0,none⟩)] w fun e w'=>e= .returned (.string (aa (Ex.pr Num.dec x)))∧Below w.heap.size w w'
def partOf(x:X)(least:Nat):List UInt8:=if Ex.hold x < least then 40::(Ex.pr Num.dec x++[41])else Ex.pr Num.dec x
theorem uA(x:X)(least:Nat)(w:World)(rb b:Nat)(h:o8 x)(hl:db w rb)(hrb:rb≤w.heap.size)(hx:IsX w rb b x)(hp:(Ex.pr Num.dec x).length≤1000000)(h4:least≤4):
  Calls Tryz.prog 135 #[.pointer (some ⟨b,0,none⟩),.int .i64 (least:Nat)] w fun e w'=>e= .returned (.string (aa (partOf x least)))∧Below w.heap.size w w':=by
 have HH:=hid (CV hl hx);have HT:=hid (h w rb b hl hrb hx hp);unfold partOf;generalize Ex.hold x=k at *
 generalize Ex.pr Num.dec x=s at *
 clear h hl hrb hx;have z1:¬9223372036854775807 < 1+s.length:=by omega
 have z2:¬9223372036854775807 < 1+s.length+1:=by omega
 have z3:¬9223372036854775807 < s.length+1+1:=by omega
 have z4:¬9223372036854775807 < s.length+1:=by omega
 by_cases hk:k < least
 ·have d1:decide ((k:Int) < (least:Int))=true:=Z9 (by omega);have d1n:decide (k < least)=true:=Z9 hk;rw[if_pos hk];clear hk;go_enter Tryz.func135,Tryz.ntmps135;go_wp2_with fail;refine HH.out.mono ?_;rintro e w1 ⟨rfl,rfl⟩;go_wp2_with fail;refine HT.out.mono ?_;rintro e w2 ⟨rfl,hb⟩;go_wp2_with fail;go_ret;exact⟨rfl,hb⟩
 ·have d1:decide ((k:Int) < (least:Int))=false:=Y9 (by omega);have d1n:decide (k < least)=false:=Y9 hk;rw[if_neg hk];clear hk;go_enter Tryz.func135,Tryz.ntmps135;go_wp2_with fail;refine HH.out.mono ?_;rintro e w1 ⟨rfl,rfl⟩;go_wp2_with fail;refine HT.out.mono ?_;rintro e w2 ⟨rfl,hb⟩;go_wp2_with fail;go_ret;exact⟨rfl,hb⟩
end
section
namespace Ex
variable{num:jd}{dec:Dec}{E:Nat}
def Stop(k:Nat)(R:List Tok):Prop:=∀t T',R=t::T'→∀j,k≤j→t.1∉levels j
theorem Stop.mono{k j:Nat}{R:List Tok}(h:Stop k R)(hj:k≤j):Stop j R:=fun t T' e i hi=>h t T' e i (by omega)
theorem Stop.done{k:Nat}{R:List Tok}(h:Stop k R)(x:X)(d:Nat):Par num E (.loop k x) d R (.ok x R):= .done fun t T' e=>h t T' e k (Z5 _)
theorem rA(k:Nat)(u:Tok)(R:List Tok)(h:u.1=[41]):Stop k (u::R):=by
 intro t T' e j _ hm;cases e;rw[h]at hm;exact absurd (cG j _ hm).1 (by
  intro _;have:=(cG j _ hm).2.1;have h2:=(cG j _ hm).2.2;have h3:aD [41]=3:=by decide
  omega)
theorem EG(k:Nat)(u:Tok)(R:List Tok)(h:aD u.1 < k):Stop k (u::R):=by
 intro t T' e j hj hm;cases e;have:=(cG j _ hm).2.1;omega
theorem lift{T R:List Tok}{y:X}{d:Nat}:∀(n k j:Nat),j=k+n→j≤2→Stop (k+1) R→(∀o,Par num E (.loop j y) d R o→Par num E (.lev j) d T o)→∀o,Par num E (.loop k y) d R o→Par num E (.lev k) d T o
 |0,k,j,hj,_,_,h,o,ho=>by subst hj;exact h o ho
 |n+1,k,j,hj,h2,hs,h,o,ho=>by
  have:=lift n (k+1) j (by omega) h2 (hs.mono (by omega)) h (.ok y R) (hs.done y d);exact .lev (by omega) this ho
theorem CW{T R:List Tok}{y:X}{d k:Nat}(hk:k≤2)(hs:Stop (k+1) R)(h:Par num E .one d T (.ok y R)):∀o,Par num E (.loop k y) d R o→Par num E (.lev k) d T o:=
 lift (2 - k) k 2 (by omega) (by omega) hs fun o ho=> .lev (by omega) (.top h) ho
def Bk(num:jd)(dec:Dec)(E:Nat)(x:X):Prop:=∀(d:Nat) (S R:List Tok) (k:Nat),d+aX dec x≤8→S.map Prod.fst=pt dec x→k≤2→k≤hold x→Stop (k+1) R→
 ∃y,gh x y∧∀o,Par num E (.loop k y) d R o→Par num E (.lev k) d (S++R) o
def Bk3(num:jd)(dec:Dec)(E:Nat)(x:X):Prop:=∀(d:Nat) (S R:List Tok),S.map Prod.fst=pt dec x→3≤hold x→∃y,gh x y∧Par num E .one d (S++R) (.ok y R)
theorem o9{x:X}(h:Bk num dec E x){d:Nat}{S R:List Tok}(hd:d+(aX dec x+1)≤8)(hS:S.map Prod.fst=[40]::(pt dec x++[[41]])):∃y,gh x y∧Par num E .one d (S++R) (.ok y R):=by
 obtain⟨a,S1,rfl,ha,h1⟩:=List.map_eq_cons_iff.1 hS;obtain⟨S2,S3,rfl,h2,h3⟩:=List.map_eq_append_iff.1 h1;obtain⟨b,S4,rfl,hb,h4⟩:=List.map_eq_cons_iff.1 h3;obtain rfl:=List.map_eq_nil_iff.1 h4;obtain⟨y,hy,hp⟩:=h (d+1) S2 (b::R) 0 (by omega) h2 (by omega) (by omega) (rA 1 b R hb);refine⟨y,hy,?_⟩;have:=hp _ ((rA 0 b R hb).done y (d+1));have e:(a::(S2++[b]))++R=a::(S2++b::R):=by simp
 rw[e];exact .paren ha (by omega) this hb
theorem rB{x:X}(h:Bk num dec E x)(h3:Bk3 num dec E x){d least:Nat}{S R:List Tok}(hd:d+(if hold x < least then aX dec x+1 else aX dec x)≤8)(hS:S.map Prod.fst=if hold x < least then [40]::(pt dec x++[[41]])else pt dec x)(hl:least≤3):
  (∀k,k≤2→k≤least→Stop (k+1) R→∃y,gh x y∧∀o,Par num E (.loop k y) d R o→Par num E (.lev k) d (S++R) o)∧(∀k,k≤3→k≤least→Stop k R→∃y,gh x y∧Par num E (.lev k) d (S++R) (.ok y R)):=by
 have key:∀k,k≤2→k≤least→Stop (k+1) R→∃y,gh x y∧∀o,Par num E (.loop k y) d R o→Par num E (.lev k) d (S++R) o:=by
  intro k hk hkl hs
  by_cases hp:hold x < least
  ·rw[if_pos hp]at hd hS;obtain⟨y,hy,ho⟩:=o9 h hd hS (R:=R);exact⟨y,hy,CW hk hs ho⟩
  ·rw[if_neg hp]at hd hS;exact h d S R k hd hS hk (by omega) hs
 refine⟨key,fun k hk hkl hs=> ?_⟩
 by_cases hk2:k≤2
 ·obtain⟨y,hy,ho⟩:=key k hk2 hkl (hs.mono (by omega));exact⟨y,hy,ho _ (hs.done y d)⟩
 ·obtain rfl:k=3:=by omega
  by_cases hp:hold x < least
  ·rw[if_pos hp]at hd hS;obtain⟨y,hy,ho⟩:=o9 h hd hS (R:=R);exact⟨y,hy,.top ho⟩
  ·rw[if_neg hp]at hS;obtain⟨y,hy,ho⟩:=h3 d S R hS (by omega);exact⟨y,hy,.top ho⟩
theorem zx{S:List Tok}{t:List UInt8}(h:S.map Prod.fst=[t]):∃a,S=[(t,a)]:=by
 obtain⟨a,S1,rfl,ha,h1⟩:=List.map_eq_cons_iff.1 h;obtain rfl:=List.map_eq_nil_iff.1 h1;exact⟨a.2,by rw[← ha]⟩
theorem uB{l:List UInt8}(h1:l≠[])(h2:∀c∈l,Lex.digit c.toNat=true):∃c r,l=c::r∧Lex.digit c.toNat=true:=by
 cases l with
 |nil=>exact absurd rfl h1
 |cons c r=>exact⟨c,r,rfl,h2 c (by simp)⟩
theorem back:∀x:X,kc num dec x→Bk num dec E x∧Bk3 num dec E x
 | .num a n,h=>by
  have key:Bk3 num dec E (.num a n):=by
   intro d S R hS _;obtain⟨b,rfl⟩:=zx hS;obtain⟨c,r,hc,hd⟩:=uB h.1 h.2.1;exact⟨.num b n,.num a b n,.num (t:=(dec n,b)) hc hd h.2.2⟩
  refine⟨fun d S R k _ hS hk _ hs=> ?_,key⟩;obtain⟨y,hy,ho⟩:=key d S R hS (Z5 _);exact⟨y,hy,CW hk hs ho⟩
 | .name a s,h=>by
  have key:Bk3 num dec E (.name a s):=by
   intro d S R hS _;obtain⟨b,rfl⟩:=zx hS;obtain⟨c,r,hc,hd⟩:=h.2.2.2;exact⟨.name b s,.name a b s,.name (t:=(s,b)) hc hd h.2.1⟩
  refine⟨fun d S R k _ hS hk _ hs=> ?_,key⟩;obtain⟨y,hy,ho⟩:=key d S R hS (Z5 _);exact⟨y,hy,CW hk hs ho⟩
 | .bin a op l r,h=>by
  obtain⟨h1,h2,h3⟩:=h;obtain⟨bl,bl3⟩:=back l h2;obtain⟨br,br3⟩:=back r h3;refine⟨fun d S R k hd hS hk hkh hs=> ?_,fun d S R hS h9=>absurd h9 (by show ¬3≤aD op;omega)⟩;have hkh':k≤aD op:=hkh;unfold pt at hS;unfold aX at hd;obtain⟨SL,S1,rfl,hl,h4⟩:=List.map_eq_append_iff.1 hS;obtain⟨t,SR,rfl,ht,hr⟩:=List.map_eq_cons_iff.1 h4;have hdl:d+(if hold l < aD op then aX dec l+1 else aX dec l)≤8:=by
   have:=Nat.le_max_left (if hold l < aD op then aX dec l+1 else aX dec l) (if hold r < aD op+1 then aX dec r+1 else aX dec r);omega
  have hdr:d+(if hold r < aD op+1 then aX dec r+1 else aX dec r)≤8:=by
   have:=Nat.le_max_right (if hold l < aD op then aX dec l+1 else aX dec l) (if hold r < aD op+1 then aX dec r+1 else aX dec r);omega
  have hop:=lz op h1;obtain⟨yl,syl,cl⟩:=(rB bl bl3 (R:=t::(SR++R)) hdl hl (by omega)).1 (aD op) (by omega) (Z5 _) (EG _ t _ (by rw[ht];omega));obtain⟨yr,syr,cr⟩:=(rB br br3 (R:=R) hdr hr (by omega)).2 (aD op+1) (by omega) (Z5 _) (hs.mono (by omega));refine⟨.bin t.2 op yl yr,.bin a t.2 op syl syr,?_⟩;have e:(SL++t::SR)++R=SL++t::(SR++R):=by simp
  rw[e];refine lift (aD op - k) k (aD op) (by omega) (by omega) hs fun o ho=>cl o ?_
  refine .more (by rw[ht];exact hop) cr ?_;rw[ht];exact ho
theorem AN{c:Cat}{d:Nat}{T:List Tok}{o:Out}(h:Par num E c d T o):d≤8→∀x R,o= .ok x R→(∀k y,c= .loop k y→k < 3∧d+(if hold y < k then aX dec y+1 else aX dec y)≤8)→
  d+(if hold x < (match c with| .lev k=>k| .loop k _=>k| .one=>3)then aX dec x+1 else aX dec x)≤8:=by
 induction h with
 |top _ ih=>intro h8 x R e _;exact ih h8 x R e (by intro k y e;cases e)
 |@lev k d T T' y o hk _ _ ih1 ih2=>
  intro h8 x R e _;have h1:=ih1 h8 _ _ rfl (by intro k y e;cases e);refine ih2 h8 x R e ?_;intro k' y' e';cases e';refine⟨hk,?_⟩;simp only at h1;split at h1 <;> split <;> omega
 |gJ=>intro h8 x R e;cases e
 |done _=>intro h8 x R e h;cases e;exact(h _ _ rfl).2
 |@more k y d t T T' z o ht _ _ ih1 ih2=>
  intro h8 x R e h;have h1:=ih1 h8 _ _ rfl (by intro k y e;cases e);obtain⟨hk,h2⟩:=h _ _ rfl;refine ih2 h8 x R e ?_;intro k' y' e';cases e';refine⟨hk,?_⟩;have ho:=(cG k _ ht).2.1;have e1:hold (.bin t.2 t.1 y z)=k:=ho;have e2:aX dec (.bin t.2 t.1 y z)=max (if hold y < k then aX dec y+1 else aX dec y) (if hold z < k+1 then aX dec z+1 else aX dec z):=by
   rw[← ho];rfl
  rw[e1,e2,if_neg (Nat.lt_irrefl _)];simp only at h1;generalize(if hold y < k then aX dec y+1 else aX dec y)=u at h2⊢;generalize(if hold z < k+1 then aX dec z+1 else aX dec z)=v at h1⊢;omega
 |dJ=>intro h8 x R e;cases e
 |@paren d t T u T' y h1 h2 _ _ ih=>
  intro h8 x R e _;cases e;have:=ih (by omega) _ _ rfl (by intro k y e;cases e);simp only[Nat.not_lt_zero,if_false]at this;show d+(if hold y < 3 then aX dec y+1 else aX dec y)≤8;split <;> omega
 |bH=>intro h8 x R e;cases e
 |cw=>intro h8 x R e;cases e
 |deep=>intro h8 x R e;cases e
 |name=>intro h8 x R e _;cases e;simp only[hold,aX,Nat.lt_irrefl,if_false];omega
 |cy=>intro h8 x R e;cases e
 |none=>intro h8 x R e;cases e
 |mark=>intro h8 x R e;cases e
 |num=>intro h8 x R e _;cases e;simp only[hold,aX,Nat.lt_irrefl,if_false];omega
 |dU=>intro h8 x R e;cases e
theorem AO(hnum:∀l n,num l= .inl n→dec n≠[]∧(∀c∈dec n,Lex.digit c.toNat=true)∧num (dec n)= .inl n){c:Cat}{d:Nat}{T:List Tok}{o:Out}(h:Par num E c d T o):∀x R,o= .ok x R→(∀t∈T,∀c r,t.1=c::r→Lex.word c=true→∀b∈t.1,Lex.word b=true)→(∀k y,c= .loop k y→kc num dec y)→kc num dec x:=by
 induction h with
 |top _ ih=>intro x R e hT _;exact ih x R e hT (by intro k y e;cases e)
 |@lev k d T T' y o hk hp _ ih1 ih2=>
  intro x R e hT _;have hs:=(hp.less _ _ rfl).1;exact ih2 x R e (fun t ht=>hT t (hs.subset ht)) (by intro k' y' e';cases e';exact ih1 _ _ rfl hT (by intro k y e;cases e))
 |gJ=>intro x R e;cases e
 |done _=>intro x R e _ h;cases e;exact h _ _ rfl
 |@more k y d t T T' z o ht hp _ ih1 ih2=>
  intro x R e hT h;have hs:=(hp.less _ _ rfl).1;refine ih2 x R e (fun u hu=>hT u (List.mem_cons_of_mem _ (hs.subset hu))) ?_;intro k' y' e';cases e';have hm:=cG k _ ht;refine⟨by rw[hm.2.1];exact hm.2.2,h _ _ rfl,ih1 _ _ rfl (fun u hu=>hT u (by simp[hu])) (by intro k y e;cases e)⟩
 |dJ=>intro x R e;cases e
 |paren _ _ _ _ ih=>
  intro x R e hT _;cases e;exact ih _ _ rfl (fun u hu=>hT u (by simp[hu])) (by intro k y e;cases e)
 |bH=>intro x R e;cases e
 |cw=>intro x R e;cases e
 |deep=>intro x R e;cases e
 |@name d t T c r h1 h2 h3=>
  intro x R e hT _;cases e;exact⟨by rw[h1];simp,h3,hT t (by simp) c r h1 (by unfold Lex.word;rw[h2,Bool.true_or]),c,r,h1,h2⟩
 |cy=>intro x R e;cases e
 |none=>intro x R e;cases e
 |mark=>intro x R e;cases e
 |num h1 h2 h3=>intro x R e _ _;cases e;exact hnum _ _ h3
 |dU=>intro x R e;cases e
end Ex
end
end Go.Proofs.YtlomecfhobehnaaGreatDoor
