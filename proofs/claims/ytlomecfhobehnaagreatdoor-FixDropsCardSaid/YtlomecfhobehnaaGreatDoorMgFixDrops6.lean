import Derived.Test.YtlomecfhobehnaaGreatDoorMgFixDrops5
set_option linter.all false
set_option maxRecDepth 100000
set_option maxHeartbeats 1000000
namespace Go.Proofs.YtlomecfhobehnaaGreatDoor
open Lib (hid)
section
open Go Go.RowKit
open Rd
namespace Ly
open Tm
def bC(t:TypeId)(v:Value):Ending:= .panicked [{v:= .iface 110 (.agg #[.iface t v]),recovered:=false}]
def oS(e:Ending):Prop:=∃t v,e=bC t v
end Ly
open Ly
theorem km(b en:Nat)(F:Value)(s:Tm.Wd)(st:St)(w:World)(h:LR w b F s st):
  Calls Tryz.prog 31 #[.pointer (some ⟨b,0,none⟩),.int .i64 (en:Nat)] w fun e w'=>oS e∧Below w.heap.size w w':=by
 have c2:=h.row.cell0 2 (by simp);simp only[Z0,Z1]at c2;have hb:=(Y4 w.heap.size w).alloc (Z5 _) (.cells #[.int .i64 (en:Nat),.int .i64 (st.at_:Nat)] 122);clear h;go_enter Tryz.func31,Tryz.ntmps31;go_wp2_with fail;exact⟨rfl,⟨_,_,rfl⟩,hb⟩
def zm(w:World)(b:Nat)(F:Value)(s:Tm.Wd)(o:Option (Tm.Wd×St))(e:Ending)(w':World):Prop:=w.grownBy w' (some b)∧match o with
 |some p=>e= .returned (.string (aa p.1))∧LR w' b F s p.2
 |none=>oS e
theorem sQ(b:Nat)(F:Value)(s:Tm.Wd)(st:St)(k:Int)(w:World)(h:LR w b F s st)(hs:s.length≤1000000)(hk1:-9223372036854775808≤k)(hk2:k≤9223372036854775807):
  Calls Tryz.prog 61 #[.pointer (some ⟨b,0,none⟩),.int .i64 k] w (zm w b F s (tak s k st)):=by
 have c1:=h.row.cell0 1 (by simp);have c2:=h.row.cell0 2 (by simp);simp only[Z0,Z1]at c1 c2;have hf2:=h.row.frozen 2 (by simp);have hlen:=h.len;have HL:=hid h;have HF:=hid (fun W (hW:LR W b F s st)=>show Calls Tryz.prog 31 #[.pointer (some ⟨b,0,none⟩),.int .i64 3] W fun e w'=>oS e∧Below W.heap.size W w' from km b 3 F s st W hW);clear h;have w1:wrap64 ((s.length:Int) - (st.at_:Int))=(s.length:Int) - (st.at_:Int):=IntWalk.wrap64_in _ ⟨by omega,by omega⟩;obtain⟨a,ha⟩:∃a,a=st.at_:=⟨_,rfl⟩;rw[← ha]at c2 hlen w1;have HA:=hid ha;clear ha
 by_cases hn:k < 0
 ·have d0:decide (k < 0)=true:=Z9 hn;have ht:tak s k st=none:=by unfold tak;rw[if_pos (.inl hn)]
  rw[ht];clear hn ht;go_enter Tryz.func61,Tryz.ntmps61;go_wp2_with fail;go_quiet (fail);go_wp2_with fail;refine Calls.mono (HF.out (w.drewN nq) (HL.out.an rfl)) ?_;rintro e w2 ⟨⟨t,v,he⟩,hb⟩;unfold bC at he;subst he;have HB:=hid hb;clear hb;go_wp2_with fail;exact⟨rfl,Rd.ar ((fy (Y4 w.heap.size w) _).trans HB.out) _,t,v,rfl⟩
 ·obtain⟨kn,rfl⟩:∃kn:Nat,k=(kn:Int):=⟨k.toNat,by omega⟩;have d0:decide ((kn:Int) < 0)=false:=Y9 hn
  by_cases hm:(s.length:Int) - (a:Int) < (kn:Int)
  ·have d1:decide ((s.length:Int) - (a:Int) < (kn:Int))=true:=Z9 hm;have ht:tak s (kn:Int) st=none:=by unfold tak;rw[← HA.out,if_pos (.inr hm)]
   rw[ht];clear hn hm ht;go_enter Tryz.func61,Tryz.ntmps61;go_wp2_with fail;go_quiet (fail);go_wp2_with fail;refine Calls.mono (HF.out (w.drewN nq) (HL.out.an rfl)) ?_;rintro e w2 ⟨⟨t,v,he⟩,hb⟩;unfold bC at he;subst he;have HB:=hid hb;clear hb;go_wp2_with fail;exact⟨rfl,Rd.ar ((fy (Y4 w.heap.size w) _).trans HB.out) _,t,v,rfl⟩
  ·have d1:decide ((s.length:Int) - (a:Int) < (kn:Int))=false:=Y9 hm;have ht:tak s (kn:Int) st=some ((s.drop a).take kn,⟨a+kn,st.n⟩):=by
    unfold tak;rw[← HA.out,if_neg (by omega)];simp
   rw[ht];have f5:wrap64 ((a:Int)+(kn:Int))=((a+kn:Nat):Int):=(IntWalk.wrap64_in _ ⟨by omega,by omega⟩).trans (by omega);have f6:(0:Int)≤(a:Int):=by omega
   have f7:(a:Int)≤((a+kn:Nat):Int):=by omega
   have f8:((a+kn:Nat):Int)≤(s.length:Int):=by omega
   have hx:(aa s).extract a (a+kn)=aa ((s.drop a).take kn):=by rw[jY,Nat.add_sub_cancel_left]
   have HX:=hid hx;have H8:=hid (show a+kn≤s.length by omega);clear hn hm ht;go_enter Tryz.func61,Tryz.ntmps61;go_wp2_with fail;go_quiet (fail);go_wp2_with fail;go_quiet (fail);go_wp2_with fail;go_ret;refine⟨⟨rfl,rfl,rfl,by simp[World.setCell],fun k _ h=>Below.heap_setCell _ _ _ _ (fun e=>h (congrArg some e))⟩,?_,?_⟩
   ·show Ending.returned (.string ((aa s).extract a (a+kn)))=_;rw[HX.out]
   ·exact⟨ae.ax (ae.of_heap HL.out.row rfl) 2 (by simp) _,H8.out,HL.out.few⟩
end
section
open Go Go.RowKit
open Rd
open Ly
abbrev st7(w:World)(b:Nat)(v0 v1 v2 v3 v4 v5 v6:Value):World:=
 (((((((w.setCell ⟨b,0,none⟩ v0).setCell ⟨b,1,none⟩ v1).setCell ⟨b,2,none⟩ v2).setCell ⟨b,3,none⟩ v3).setCell ⟨b,4,none⟩ v4).setCell ⟨b,5,none⟩ v5).setCell ⟨b,6,none⟩ v6)
theorem pj{w:World}{b:Nat}{T:TypeId}{ys:List Value}(h:ae w b 0 T ys)(hy:ys.length=7)(v0 v1 v2 v3 v4 v5 v6:Value):ae (st7 w b v0 v1 v2 v3 v4 v5 v6) b 0 T [v0,v1,v2,v3,v4,v5,v6]:=by
 match ys,hy with
 |[a0,a1,a2,a3,a4,a5,a6],_=>
  exact((((((h.ax 0 (by simp) v0).ax 1 (by simp) v1).ax 2 (by simp) v2).ax 3 (by simp) v3).ax 4 (by simp) v4).ax 5 (by simp) v5).ax 6 (by simp) v6
theorem dz{w:World}{b:Nat}(v0 v1 v2 v3 v4 v5 v6:Value)(g:Nat)(hg:g≠b):(st7 w b v0 v1 v2 v3 v4 v5 v6).heap[g]? =w.heap[g]? :=by
 have k:∀(W:World) (i:Nat) (v:Value),(W.setCell ⟨b,i,none⟩ v).heap[g]? =W.heap[g]? :=fun W i v=>Below.heap_setCell W ⟨b,i,none⟩ v g hg
 unfold st7
 iterate 7 rw[k]
theorem qk{w:World}{b:Nat}(v0 v1 v2 v3 v4 v5 v6:Value):(st7 w b v0 v1 v2 v3 v4 v5 v6).heap.size=w.heap.size:=by
 unfold st7;simp only[World.size_setCell]
theorem fj{w0 w:World}{r:Nat}{m:Option Nat}(h:But w0 w r m){b:Nat}(hb:w0.heap.size≤b)(i:Nat)(v:Value):But w0 (w.setCell ⟨b,i,none⟩ v) r m:=by
 have hz:(w.setCell ⟨b,i,none⟩ v).heap.size=w.heap.size:=World.size_setCell ..
 refine⟨h.os,h.tape,h.output,by rw[hz];exact h.size,fun k hk h1 h2=> ?_⟩;exact(Below.heap_setCell w ⟨b,i,none⟩ v k (show k≠b by omega)).trans (h.block k hk h1 h2)
theorem AW{w0 w:World}{b:Nat}(v0 v1 v2 v3 v4 v5 v6:Value){r:Nat}{m:Option Nat}(h:But w0 w r m)(hb:w0.heap.size≤b):But w0 (st7 w b v0 v1 v2 v3 v4 v5 v6) r m:=
 fj (fj (fj (fj (fj (fj (fj h hb 0 v0) hb 1 v1) hb 2 v2) hb 3 v3) hb 4 v4) hb 5 v5) hb 6 v6
def fB(w:World)(b:Nat)(F:Value)(s nm:Tm.Wd)(kd:Nat)(st:St)(e:Ending)(w':World):Prop:=But w w' b none∧match nod st with
 |some st1=>e= .returned (.agg (ab nm kd st.at_ 0 0 [] (.slice none 0 0)).toArray)∧LR w' b F s st1
 |none=>oS e
theorem jx(b:Nat)(F:Value)(s nm:Tm.Wd)(kd g o:Nat)(st:St)(w:World)(h:LR w b F s st)(hg:g≠b)(hc:w.cell? ⟨g,o+2,none⟩=some (.string (aa nm))):
  Calls Tryz.prog 60 #[.pointer (some ⟨b,0,none⟩),.pointer (some ⟨g,o,none⟩),.int .i64 (kd:Nat)] w (fB w b F s nm kd st):=by
 have hglt:g < w.heap.size:=World.block_lt_of_cell? w _ hc;have hblt:=h.row.lt;unfold fB
 by_cases hn:st.n=400
 ·have ho:nod st=none:=by unfold nod;rw[if_pos hn]
  have c3:=(h.row.alloc (.cells #[.string {data:= #[]},.int .i64 0,.int .i64 0,.int .i64 0,.int .i64 0,.string {data:= #[]},.slice none 0 0] 28)).cell0 3 (by simp);simp only[Z0,Z1]at c3;rw[hn]at c3;rw[ho];have HL:=hid (h.an (w':=w.alloc (.cells #[.string {data:= #[]},.int .i64 0,.int .i64 0,.int .i64 0,.int .i64 0,.string {data:= #[]},.slice none 0 0] 28)) (Below.heap_alloc _ _ _ hblt));have HF:=hid (fun W (hW:LR W b F s st)=>show Calls Tryz.prog 31 #[.pointer (some ⟨b,0,none⟩),.int .i64 4] W fun e w'=>oS e∧Below W.heap.size W w' from km b 4 F s st W hW);have HB1:=hid ((Y4 w.heap.size w).alloc (Z5 _) (.cells #[.string {data:= #[]},.int .i64 0,.int .i64 0,.int .i64 0,.int .i64 0,.string {data:= #[]},.slice none 0 0] 28));clear h ho hc hn;go_enter Tryz.func60,Tryz.ntmps60;go_wp2_with fail;refine(HF.out _ HL.out).mono ?_;rintro e w2 ⟨⟨t,v,he⟩,hb⟩;unfold bC at he;subst he;have HB:=hid (HB1.out.trans (hb.mono HB1.out.size));clear hb;go_wp2_with fail;exact⟨rfl,But.aA HB.out,t,v,rfl⟩
 ·obtain⟨a,ha⟩:∃a,a=st.at_:=⟨_,rfl⟩;obtain⟨n,hN⟩:∃n,n=st.n:=⟨_,rfl⟩;have ho:nod st=some ⟨a,n+1⟩:=by unfold nod;rw[if_neg hn,ha,hN]
  have hn4:n < 400:=by have:=h.few;omega
  have hr1:=h.row.alloc (.cells #[.string {data:= #[]},.int .i64 0,.int .i64 0,.int .i64 0,.int .i64 0,.string {data:= #[]},.slice none 0 0] 28);have hr2:=(h.row.ax 3 (by simp) (.int .i64 ((n:Int)+1))).alloc (.cells #[.string {data:= #[]},.int .i64 0,.int .i64 0,.int .i64 0,.int .i64 0,.string {data:= #[]},.slice none 0 0] 28);rw[← ha,← hN]at hr1 hr2;simp only[Z2,Z3]at hr2;have c3:=hr1.cell0 3 (by simp);have f3:=hr1.frozen 3 (by simp);have c2:=hr2.cell0 2 (by simp);simp only[Z0,Z1]at c3 c2;have d4:decide ((n:Int)=400)=false:=Y9 (by omega);have d5:((n:Int)==400)=false:=Z8.2 (by omega);have d6:wrap64 ((n:Int)+1)=(n:Int)+1:=IntWalk.wrap64_in _ ⟨by omega,by omega⟩;rw[ho,← ha];have HR2:=hid hr2;have HLN:=hid (show a≤s.length by rw[ha];exact h.len);clear h ho hn hr1 hr2 ha hN;have hsz:(w.setCell ⟨b,3,none⟩ (.int .i64 ((n:Int)+1))).heap.size=w.heap.size:=World.size_setCell ..
  have cg2:((w.setCell ⟨b,3,none⟩ (.int .i64 ((n:Int)+1))).alloc (.cells #[.string {data:= #[]},.int .i64 0,.int .i64 0,.int .i64 0,.int .i64 0,.string {data:= #[]},.slice none 0 0] 28)).cell? ⟨g,o+2,none⟩=some (.string (aa nm)):=(World.cell?_of_block (Below.heap_alloc _ _ _ (by rw[hsz];exact hglt))).trans ((World.cell?_of_block (Below.heap_setCell _ _ _ _ hg)).trans hc);have hbx:ae ((w.setCell ⟨b,3,none⟩ (.int .i64 ((n:Int)+1))).alloc (.cells #[.string {data:= #[]},.int .i64 0,.int .i64 0,.int .i64 0,.int .i64 0,.string {data:= #[]},.slice none 0 0] 28)) w.heap.size 0 28 [.string {data:= #[]},.int .i64 0,.int .i64 0,.int .i64 0,.int .i64 0,.string {data:= #[]},.slice none 0 0]:=by
   have:=ae.new (w.setCell ⟨b,3,none⟩ (.int .i64 ((n:Int)+1))) 28 #[.string {data:= #[]},.int .i64 0,.int .i64 0,.int .i64 0,.int .i64 0,.string {data:= #[]},.slice none 0 0];rw[hsz]at this;exact this
  have hbut:But w ((w.setCell ⟨b,3,none⟩ (.int .i64 ((n:Int)+1))).alloc (.cells #[.string {data:= #[]},.int .i64 0,.int .i64 0,.int .i64 0,.int .i64 0,.string {data:= #[]},.slice none 0 0] 28)) b none:=(But.setCell 3 _).trans (But.aA ((Y4 _ _).alloc (Z5 _) _));have HBX:=hid hbx;have HBUT:=hid hbut;clear hc hbx hbut;go_enter Tryz.func60,Tryz.ntmps60;go_wp2_with fail;obtain⟨W,hW⟩:∃W,W=(w.setCell ⟨b,3,none⟩ (.int .i64 ((n:Int)+1))).alloc (.cells #[.string {data:= #[]},.int .i64 0,.int .i64 0,.int .i64 0,.int .i64 0,.string {data:= #[]},.slice none 0 0] 28):=⟨_,rfl⟩;rw[← hW]at cg2 c2 HBX HBUT HR2⊢;clear hW c3 f3;have y0:=HBX.out.cell0 0 (by simp);have z0:=HBX.out.frozen0 0 (by simp);have y1:=HBX.out.cell0 1 (by simp);have z1:=HBX.out.frozen0 1 (by simp);have y2:=HBX.out.cell0 2 (by simp);have z2:=HBX.out.frozen0 2 (by simp);have y3:=HBX.out.cell0 3 (by simp);have z3:=HBX.out.frozen0 3 (by simp);have y4:=HBX.out.cell0 4 (by simp);have z4:=HBX.out.frozen0 4 (by simp);have y5:=HBX.out.cell0 5 (by simp);have z5:=HBX.out.frozen0 5 (by simp);have y6:=HBX.out.cell0 6 (by simp);have z6:=HBX.out.frozen0 6 (by simp);simp only[Z0,Z1]at y0 y1 y2 y3 y4 y5 y6;have p0:=HBX.out.ax 0 (by simp) (.string (aa nm));have r0:=p0.cell0 0 (by simp);have p1:=p0.ax 1 (by simp) (.int .i64 (kd:Nat));have r1:=p1.cell0 1 (by simp);have p2:=p1.ax 2 (by simp) (.int .i64 (a:Nat));have r2:=p2.cell0 2 (by simp);have p3:=p2.ax 3 (by simp) (.int .i64 0);have r3:=p3.cell0 3 (by simp);have p4:=p3.ax 4 (by simp) (.int .i64 0);have r4:=p4.cell0 4 (by simp);have p5:=p4.ax 5 (by simp) (.string {data:= #[]});have r5:=p5.cell0 5 (by simp);have p6:=p5.ax 6 (by simp) (.slice none 0 0);have r6:=p6.cell0 6 (by simp);simp only[Z2,Z3,Z0,Z1]at r0 r1 r2 r3 r4 r5 r6;clear p0 p1 p2 p3 p4 p5 p6;have hbw:b≠w.heap.size:=by omega
  have hrow:ae W b 0 62 [F,.string (aa s),.int .i64 (a:Nat),.int .i64 ((n+1:Nat):Int)]:=HR2.out;have hfar:=dz (w:=W) (b:=w.heap.size) (.string (aa nm)) (.int .i64 (kd:Nat)) (.int .i64 (a:Nat)) (.int .i64 0) (.int .i64 0) (.string {data:= #[]}) (.slice none 0 0) b hbw;have hl0:LR W b F s ⟨a,n+1⟩:=⟨hrow,HLN.out,(show n+1≤400 by omega)⟩;generalize hS:st7 W w.heap.size (.string (aa nm)) (.int .i64 (kd:Nat)) (.int .i64 (a:Nat)) (.int .i64 0) (.int .i64 0) (.string {data:= #[]}) (.slice none 0 0)=S at hfar;have hlr:LR S.drew b F s ⟨a,n+1⟩:=hl0.an (w':=S.drew) hfar;rw[← hS]at hlr;clear hfar hl0 hS;have HLR:=hid hlr;clear hrow hlr;go_still_tail 10,(by kernel_rfl);change wpList _ _ _ _ _ W.drew;go_wp2_with fail;refine bodyPost_ret (v:= .agg (ab nm kd a 0 0 [] (.slice none 0 0)).toArray) (by simp[results,Tryz.results60,go_sem,r0,r1,r2,r3,r4,r5,r6];first|done|rfl) rfl ?_;refine⟨(AW _ _ _ _ _ _ _ HBUT.out (Z5 _)).drew,rfl,?_⟩;exact HLR.out
def ql(w:World)(o:Option Int)(e:Ending)(w':World):Prop:=Below w.heap.size w w'∧match o with
 |some v=>e= .returned (.int .i64 v)
 |none=>oS e
theorem ly(w:World)(rb bx n:Nat)(x:Ex.X)(mv:Value)(N:Ex.Names)(hN:lZ w mv N n)(hx:IsX w rb bx x)(hf:Ex.kK Num.numOf Num.dec x):
  Calls Tryz.prog 64 #[.pointer (some ⟨bx,0,none⟩),mv] w (ql w (Ex.ev N x)):=by
 have he:=ze w mv N n hN x hf w rb bx (Y4 _ _) hx;unfold ql;unfold iN at he;generalize Ex.ev N x=o at *
 have HE:=hid he;clear he hN hx hf;cases o with
 |some v=>
  go_enter Tryz.func64,Tryz.ntmps64;go_wp2_with fail;refine HE.out.mono ?_;rintro e w1 ⟨hb,rfl⟩;have HB:=hid hb;clear hb;go_wp2_with fail;go_ret;exact⟨HB.out,rfl⟩
 |none=>
  go_enter Tryz.func64,Tryz.ntmps64;go_wp2_with fail;refine HE.out.mono ?_;rintro e w1 ⟨hb,g,p,rfl,hr⟩;have HB:=hid hb;clear hb hr;go_wp2_with fail;exact⟨rfl,HB.out,_,_,rfl⟩
end
section
open Ly
theorem qm{w:Tm.Wd}(h:(Tm.kindOf w).isSome=true):(cW w).1=bo w∧(cW w).2.1=gh w∧(cW w).2.2=eR w:=by
 unfold bo gh eR cW;refine⟨rfl,rfl,rfl⟩
end
section
open Go.RowKit
theorem sR(k n o:Nat)(w:World)(h1:k < n)(h2:n≤8):
  Calls Tryz.prog 93 #[.int .i64 k,.int .i64 n,.int .i64 o] w fun e w'=>e= .returned (.int .i64 (plc k n o:Nat))∧w=w':=by
 by_cases ho:o=1
 ·subst ho;have hp:((plc k n 1:Nat):Int)=(n:Int) - 1 - k:=by unfold plc;simp;omega
  have HP:=hid hp;clear hp;go_enter Tryz.func93,Tryz.ntmps93;go_wp2_with fail;go_ret;exact⟨jW HP.out.symm,rfl⟩
 ·have hp:((plc k n o:Nat):Int)=(k:Int):=by unfold plc;rw[if_neg ho]
  have HP:=hid hp;clear hp;have ho':((o:Int)==1)=false:=by simp;omega
  go_enter Tryz.func93,Tryz.ntmps93;go_wp2_with fail;go_ret;exact⟨jW HP.out.symm,rfl⟩
theorem sS(n o:Nat)(w:World)(hn:n=1∨n=2∨n=4∨n=8)(ho:o=0∨o=1):
  Calls Tryz.prog 92 #[.int .i64 n,.int .i64 o] w fun e w'=>e= .returned (.bool true)∧w=w':=by
 rcases hn with rfl|rfl|rfl|rfl <;> rcases ho with rfl|rfl
 all_goals
  go_enter Tryz.func92,Tryz.ntmps92;go_wp2_with fail;go_ret;exact⟨rfl,rfl⟩
theorem Hv(n wd o:Nat)(w:World)(hn:wd=1∨wd=2∨wd=4∨wd=8)(ho:o=0∨o=1):
  Calls Tryz.prog 67 #[.int .u64 n,.int .i64 wd,.int .i64 o] w fun e w'=>e= .returned (.tuple #[.string (aa (mf n wd o)),.nilIface])∧Below w.heap.size w w':=by
 obtain⟨i0,hi0,hz0,hz1,hz2⟩:=info_parts ue;have hw8:wd≤8:=by omega
 have hw1:1≤wd:=by omega
 go_enter Tryz.func67,Tryz.ntmps67;go_wp2_with (first
  |(go_at_call 92;refine(sS wd o _ hn ho).mono ?_;rintro e w' ⟨rfl,rfl⟩)
  |(at_make;refine wpList_make_full _ rfl _ _ _ rfl w.heap.size 5 i0 (.int .u8 0) 1 Tryz.underlying147 hi0 hz0 hz1 .i64 .i64 wd wd wd rfl rfl rfl rfl (by rw[hz2];omega) (by unfold maxLen;omega) (Z5 _) ?_;intro w1 hown1 hgrow1))
 have hmc:(madeCells (Value.int IntKind.u8 0).cells (wd * 1)).toList=putRow n wd o 0:=by
  rw[wA,Nat.mul_one];exact toList_madeCells_one _ _
 rw[hmc]at hown1;clear hmc;have hb1:Below w.heap.size w w1:=(Y4 _ _).grown hgrow1 (Z5 _) (by simp);clear hgrow1;generalize hB:w.heap.size=B at *
 have HB:=hid hB;clear hB;go_loopw [18] (fun i wr=>∃k:Nat,k≤wd∧i= .int .i64 k∧wr.ownsRow B 5 1 (.slice (some ⟨B,0,none⟩) wd wd) wd (putRow n wd o k)∧Below B w wr) (fun i _=>wd - (intOf i).toNat)
 case atStart=>exact⟨0,by omega,rfl,hown1,hb1⟩
 case round=>
  obtain⟨k,hk,rfl,hown,hb⟩:=hrel;clear hown1 hb1
  by_cases hlt:k < wd
  ·have hp:=nJ (o:=o) hlt;obtain⟨v0,hcell⟩:∃v,wr.cell? ⟨B,plc k wd o,none⟩=some v:=
    ⟨_,(hown.cellAt (plc k wd o) (by omega)).trans (Y1 (by rw[rZ];exact hp))⟩
   have hfr:=hown.frozenAt (plc k wd o);have hb5:=zj n k;rw[← IntKind.wrap_u8']at hb5;have hs1:IntKind.i64.wrap (8 * (k:Int))=8 * (k:Int):=IntWalk.i64_in _ ⟨by omega,by omega⟩;have hs2:(0:Int)≤8 * (k:Int):=by omega
   have hs3:8 * (k:Int)≤64:=by omega
   have hs4:(8 * (k:Int)).toNat=8 * k:=by omega
   have hs5:((plc k wd o:Nat):Int) < (wd:Int):=by omega
   have hstep:=wC n wd o k hlt;have hset:=hown.stored (plc k wd o) (.int .u8 ((byteOf n k:Nat):Int));rw[hstep]at hset;have HSET:=hid hset;clear hstep hset;go_wp2_with fail;go_still_tail 11,(by kernel_rfl)
   still_call ((sR k wd o _ hlt hw8).mono fun _ _ h=>⟨h.1,h.2.symm⟩)
   repeat still_step
   refine wpStill_nil ?_;change wpList _ _ _ _ _ wr.drew;go_wp2_with fail;go_roundw
   case rel=>exact⟨k+1,by omega,by go_num,HSET.out.1,(hb.setCell (p:=⟨B,plc k wd o,none⟩) (Z5 _) _).drew⟩
   case measure=>simp[intOf];omega
  ·obtain rfl:k=wd:=by omega
   have hconv:=run_convert_bytes_arg (P:=Tryz.prog) wr 147 5 Tryz.underlying147 Tryz.underlying5 B 0 k k ((List.range k).map fun j=>((fM n k o k j:Nat):Int)) (by simp)
    (fun i hi=>by rw[Nat.zero_add,hown.cellAt i (by omega)];simp[putRow,hi]) 9 Tryz.underlying9
   clear hown;generalize hS:strOfNums ((List.range k).map fun j=>((fM n k o k j:Nat):Int))=S at hconv;have HS:=hid hS;clear hS;go_wp2_with fail;go_ret2;refine⟨?_,by rw[HB.out];exact hb⟩;rw[← HS.out,wE];rfl
theorem Hw(s:ByteArray)(a wd o:Nat)(w:World)(hn:wd=1∨wd=2∨wd=4∨wd=8)(ho:o=0∨o=1)(ha:a+wd≤s.size)(hs:s.size≤maxLen):
  Calls Tryz.prog 62 #[.string s,.int .i64 a,.int .i64 wd,.int .i64 o] w fun e w'=>e= .returned (.tuple #[.int .u64 (fN s.data.toList a wd o wd:Nat),.nilIface])∧w=w':=by
 unfold maxLen at hs;have hw8:wd≤8:=by omega
 have hw1:1≤wd:=by omega
 go_enter Tryz.func62,Tryz.ntmps62;go_wp2_with (go_at_call 92;refine(sS wd o _ hn ho).mono ?_;rintro e w' ⟨rfl,rfl⟩);go_loop [10,29] (fun n i=>∃k:Nat,k≤wd∧i= .int .i64 k∧n= .int .u64 (fN s.data.toList a wd o k:Nat)) (fun n i=>wd - (intOf i).toNat)
 case atStart=>exact⟨0,by omega,rfl,rfl⟩
 case round=>
  obtain⟨k,hk,rfl,rfl⟩:=hrel;have hg:=iQ s.data.toList a wd o k;have hg8:=kh (show k≤8 by omega);generalize hG:fN s.data.toList a wd o k=G at *
  have HG:=hid hG;clear hG
  by_cases hlt:k < wd
  ·have hp:=nJ (o:=o) hlt;go_wp2_with (go_at_call 93;refine(sR k wd o _ hlt hw8).mono ?_;rintro e w' ⟨rfl,rfl⟩);go_round
   case rel=>exact⟨k+1,by omega,by go_num,oZ (Fe s a wd o k G HG.out hg (by omega) (by omega))⟩
   case measure=>simp[intOf];omega
  ·obtain rfl:k=wd:=by omega
   go_wp2_with fail;go_ret2;exact⟨by rw[HG.out];rfl,rfl⟩
theorem uB(n wd:Nat)(w:World)(hn:n < 18446744073709551616)(h1:1≤wd)(h8:wd≤8):
  Calls Tryz.prog 73 #[.int .u64 n,.int .i64 wd] w fun e w'=>e= .returned (.int .u64 (jm n wd:Nat))∧w=w':=by
 obtain rfl|rfl|rfl|rfl|rfl|rfl|rfl|rfl:wd=1∨wd=2∨wd=3∨wd=4∨wd=5∨wd=6∨wd=7∨wd=8:=by omega
 all_goals
  go_enter Tryz.func73,Tryz.ntmps73;go_wp2_with fail;go_ret;refine⟨jW ?_,rfl⟩;unfold jm
  first|(rw[IntKind.wrap_u64];omega)|omega
theorem qn(n wd:Nat)(w:World)(hn:n < 18446744073709551616)(h1:1≤wd)(h8:wd≤8):
  Calls Tryz.prog 63 #[.int .u64 n,.int .i64 wd] w fun e w'=>e= .returned (.int .i64 (iv n wd))∧w=w':=by
 obtain rfl|rfl|rfl|rfl|rfl|rfl|rfl|rfl:wd=1∨wd=2∨wd=3∨wd=4∨wd=5∨wd=6∨wd=7∨wd=8:=by omega
 all_goals
  go_enter Tryz.func63,Tryz.ntmps63;go_wp2_with fail;go_ret;refine⟨jW ?_,rfl⟩;unfold iv jm wrap64;split <;> first|(rw[IntKind.wrap_u64];omega)|omega
theorem sU(n:Int)(wd:Nat)(w:World)(lo:-9223372036854775808≤n)(hi:n≤9223372036854775807)(h1:1≤wd)(h8:wd≤8):
  Calls Tryz.prog 39 #[.int .i64 n,.int .i64 wd,.bool true] w fun e w'=>e= .returned (.bool (iv (fi n) wd==n))∧w=w':=by
 have hu:=nK n;have hul:=AU n;generalize fi n=u at *
 go_enter Tryz.func39,Tryz.ntmps39;go_wp2_with (go_at_call 63;refine(qn u wd _ hul h1 h8).mono ?_;rintro e w' ⟨rfl,rfl⟩);go_ret;exact⟨rfl,rfl⟩
theorem qo(n:Int)(wd:Nat)(w:World)(lo:-9223372036854775808≤n)(hi:n≤9223372036854775807)(h1:1≤wd)(h8:wd≤8):
  Calls Tryz.prog 39 #[.int .i64 n,.int .i64 wd,.bool false] w fun e w'=>e= .returned (.bool (decide (0≤n)&&(((jm (fi n) wd:Nat):Int)==((fi n:Nat):Int))))∧w=w':=by
 have hu:=nK n;have hul:=AU n;generalize fi n=u at *
 by_cases h0:0≤n
 ·have hd:decide (0≤n)=true:=by simpa using h0
  go_enter Tryz.func39,Tryz.ntmps39;go_wp2_with (go_at_call 73;refine(uB u wd _ hul h1 h8).mono ?_;rintro e w' ⟨rfl,rfl⟩);go_ret
  first|exact⟨rfl,rfl⟩|exact⟨by rw[hd];rfl,rfl⟩
 ·have hd:decide (0≤n)=false:=by simpa using h0
  go_enter Tryz.func39,Tryz.ntmps39;go_wp2_with fail;go_ret
  first|exact⟨rfl,rfl⟩|exact⟨by rw[hd];rfl,rfl⟩
end
section
open Go Go.RowKit
open Rd
open Ly
def gp(w:World)(b:Nat)(m:Option Nat)(F:Value)(s:Tm.Wd)(st:St)(o:Option (Nd×St))(e:Ending)(w':World):Prop:=But w w' b m∧match o with
 |some p=>(∃v bl,e= .returned v∧NdV w' w.heap.size bl p.1 v∧bl.Nodup)∧LR w' b F s p.2∧st.at_≤p.2.at_∧st.n < p.2.n
 |none=>oS e
theorem oF{st st1:St}(h:nod st=some st1):st1.n=st.n+1:=by
 unfold nod at h;split at h
 ·cases h
 ·cases h;rfl
theorem Jg{s:Tm.Wd}{k:Int}{st st2:St}{u:Tm.Wd}(h:tak s k st=some (u,st2)):st2.n=st.n:=by
 unfold tak at h;split at h
 ·cases h
 ·cases h;rfl
abbrev cM:List Value:=[.string {data:= #[]},.int .i64 0,.int .i64 0,.int .i64 0,.int .i64 0,.string {data:= #[]},.slice none 0 0]
structure BxS(w0 w:World)(b nb:Nat)(m:Option Nat)(F:Value)(s:Tm.Wd)(st:St)(cs:List Value):Prop where
 but:But w0 w b m
 res:ae w w0.heap.size 0 28 cM
 row:ae w nb 0 28 cs
 lt:w0.heap.size < nb
 lr:LR w b F s st
 blt:b < w0.heap.size
 mlt:∀x,m=some x→x < w0.heap.size
section
variable{w0 w w':World}{b nb:Nat}{m:Option Nat}{F:Value}{s:Tm.Wd}{st st':St}{cs:List Value}
theorem BxS.move(h:BxS w0 w b nb m F s st cs)(hb:But w w' b m)(hl:LR w' b F s st'):BxS w0 w' b nb m F s st' cs:=by
 have h1:=h.but.size;have h2:=h.blt;have h3:=h.lt;have k:∀g,g < w.heap.size→w0.heap.size≤g→w'.heap[g]? =w.heap[g]? :=fun g hg h4=>hb.block g hg (by omega) (fun e=>by have:=h.mlt g e.symm;omega)
 exact⟨h.but.trans hb,h.res.of_heap (k _ h.res.lt (Z5 _)),h.row.of_heap (k _ h.row.lt (by omega)),h3,hl,h2,h.mlt⟩
theorem BxS.up(h:BxS w0 w b nb m F s st cs)(hb:Below w.heap.size w w'):BxS w0 w' b nb m F s st cs:=h.move (But.aA hb) (h.lr.an (hb.block _ h.lr.row.lt))
theorem BxS.drewN(h:BxS w0 w b nb m F s st cs)(k:Nat):BxS w0 (w.drewN k) b nb m F s st cs:=h.up ⟨rfl,rfl,rfl,Z5 _,fun _ _=>rfl⟩
theorem BxS.set(h:BxS w0 w b nb m F s st cs)(k:Nat)(hk:k < cs.length)(v:Value):BxS w0 (w.setCell ⟨nb,k,none⟩ v) b nb m F s st (cs.set k v):=by
 have h1:=h.but.size;have h2:=h.blt;have h3:=h.lt;refine⟨fj h.but (by omega) k v,h.res.far (show w0.heap.size≠nb by omega) v,h.row.ax k hk v,h3,?_,h2,h.mlt⟩;exact h.lr.an (Below.heap_setCell _ _ _ _ (show b≠nb by omega))
theorem BxS.cell(h:BxS w0 w b nb m F s st cs)(k:Nat)(hk:k < cs.length):w.cell? ⟨nb,k,none⟩=some cs[k]∧w.frozen? ⟨nb,k,none⟩=false:=⟨h.row.cell0 k hk,h.row.frozen0 k hk⟩
theorem BxS.start{st1:St}{nm:Tm.Wd}{kd:Nat}(hL:LR w0 b F s st){W0:World}(hW:W0=w0.alloc (.cells cM.toArray 28)){w1:World}(hb:But W0 w1 b none)(hl:LR w1 b F s st1)(hm:∀x,m=some x→x < w0.heap.size):
  BxS w0 (w1.alloc (.cells (ab nm kd st.at_ 0 0 [] (.slice none 0 0)).toArray 28)) b w1.heap.size m F s st1 (ab nm kd st.at_ 0 0 [] (.slice none 0 0)):=by
 have hlt:=hL.row.lt;have hW0:ae W0 w0.heap.size 0 28 cM:=by rw[hW];exact ae.new w0 _ _
 have hs0:W0.heap.size=w0.heap.size+1:=by rw[hW];simp
 have hs1:=hb.size;have h1:ae w1 w0.heap.size 0 28 cM:=hW0.of_heap (hb.block _ hW0.lt (by omega) (fun e=>by cases e));refine⟨?_,h1.alloc _,ae.new w1 _ _,by omega,hl.an (Below.heap_alloc _ _ _ hl.row.lt),hlt,hm⟩;have k1:But w0 W0 b m:=by rw[hW];exact But.aA ((Y4 _ _).alloc (Z5 _) _)
 exact(k1.trans hb.wide).trans (But.aA ((Y4 _ _).alloc (Z5 _) _))
end
theorem BxS.result{w0 w:World}{b nb:Nat}{m:Option Nat}{F:Value}{s:Tm.Wd}{st:St}{cs:List Value}(h:BxS w0 w b nb m F s st cs)(v0 v1 v2 v3 v4 v5 v6:Value):
  But w0 (st7 w w0.heap.size v0 v1 v2 v3 v4 v5 v6) b m∧LR (st7 w w0.heap.size v0 v1 v2 v3 v4 v5 v6) b F s st∧ae (st7 w w0.heap.size v0 v1 v2 v3 v4 v5 v6) w0.heap.size 0 28 [v0,v1,v2,v3,v4,v5,v6]:=by
 have h2:=h.blt;exact⟨AW _ _ _ _ _ _ _ h.but (Z5 _),h.lr.an (dz _ _ _ _ _ _ _ _ (by omega)),pj h.res (by rfl) _ _ _ _ _ _ _⟩
theorem mg{w0 W0 w1:World}{b:Nat}{m:Option Nat}{o:Obj}(hW:W0=w0.alloc o)(hb:But W0 w1 b none)(hlt:b < w0.heap.size):But w0 w1 b m:=by
 have k1:But w0 W0 b m:=by rw[hW];exact But.aA ((Y4 _ _).alloc (Z5 _) _)
 exact k1.trans hb.wide
theorem Hx{gv k:Nat}(h:gv < 256 ^ k)(hk:k≤8):gv < 18446744073709551616:=by
 have h1:256 ^ k≤256 ^ 8:=Nat.pow_le_pow_right (by omega) hk;have h2:(256:Nat) ^ 8=18446744073709551616:=by decide
 omega
theorem wrap_small{gv:Nat}(h:gv < 4294967296):wrap64 (gv:Int)=(gv:Int):=IntWalk.wrap64_in _ ⟨by omega,by omega⟩
theorem AX{gv k:Nat}(h:gv < 256 ^ k)(hk:k≤4):gv < 4294967296:=by
 have h1:256 ^ k≤256 ^ 4:=Nat.pow_le_pow_right (by omega) hk;have h2:(256:Nat) ^ 4=4294967296:=by decide
 omega
theorem zn{w:Tm.Wd}{k:Nat×Nat×Bool}(h:Tm.kindOf w=some k):∃p∈Tm.bp,p.2=k:=by
 unfold Tm.kindOf at h;cases hf:Tm.bp.find? (fun p=>p.1==w)with
 |none=>rw[hf]at h;cases h
 |some p=>
  rw[hf]at h;exact⟨p,List.mem_of_find?_eq_some hf,by simpa using h⟩
theorem wH:∀p∈Tm.bp,(p.2.1=1∨p.2.1=2∨p.2.1=4∨p.2.1=8)∧(p.2.2.1=0∨p.2.2.1=1)∧(p.2.2.2=false→p.2.1≤4):=by decide
theorem mh{w:Tm.Wd}(h:(Tm.kindOf w).isSome=true):(bo w=1∨bo w=2∨bo w=4∨bo w=8)∧(gh w=0∨gh w=1)∧(eR w=false→bo w≤4):=by
 cases hk:Tm.kindOf w with
 |none=>rw[hk]at h;cases h
 |some k=>
  obtain⟨p,hp,rfl⟩:=zn hk;have:=wH p hp;unfold bo gh eR;rw[hk];exact this
end
section
open Go.RowKit
open Rd
structure fO(w0 w:World)(rb yb xb E:Nat)(R:List Rd.Tok)(ys cs:List Value):Prop where
 gr:w0.grownBy w (some rb)
 env:Env w rb
 ylo:w0.heap.size≤yb
 xlo:w0.heap.size≤xb
 ne:xb≠yb
 lt:rb < w0.heap.size
 rd:Rdr w rb R E
 oT:ae w yb 0 70 ys
 row:ae w xb 0 70 cs
 gy:∃wy:World,wy.heap.size≤xb∧ae wy yb 0 70 ys∧w0.grownBy wy (some rb)∧wy.grownBy w (some rb)
section
variable{w0 w w':World}{rb yb xb E:Nat}{R R':List Rd.Tok}{ys cs:List Value}
theorem fO.move(h:fO w0 w rb yb xb E R ys cs)(hr:Rdr w' rb R' E)(hg:w.grownBy w' (some rb)):fO w0 w' rb yb xb E R' ys cs:=
 ⟨ah h.gr hg,h.env.grown hg h.rd.lt,h.ylo,h.xlo,h.ne,h.lt,hr,
  h.oT.of_heap (hg.block yb h.oT.lt (fun e=>by injection e with e;have:=h.lt;have:=h.ylo;omega)),
  h.row.of_heap (hg.block xb h.row.lt (fun e=>by injection e with e;have:=h.lt;have:=h.xlo;omega)),
  by obtain⟨wy,h1,h2,h3,h4⟩:=h.gy;exact⟨wy,h1,h2,h3,ah h4 hg⟩⟩
theorem AY{w:World}{rb xb k:Nat}(h:Env w rb)(hx:rb≤xb)(v:Value):Env (w.setCell ⟨xb,k,none⟩ v) rb:=by
 have key:∀(p:Addr),p.block < rb→(w.setCell ⟨xb,k,none⟩ v).cell? p=w.cell? p:=fun p hlt=>World.cell?_of_block (Below.heap_setCell w ⟨xb,k,none⟩ v p.block (by show p.block≠xb;omega))
 refine⟨⟨h.lv.1,fun k hk=> ?_⟩,(key ⟨_,0,none⟩ h.eb).trans h.er,h.eb⟩;obtain⟨gk,ck,h1,h2,h3⟩:=h.lv.2 k hk;exact⟨gk,ck,(key ⟨_,k,none⟩ h.lv.1).trans h1,h2,fun j hj=>(key (gk.add j) (by rw[Addr.cH];exact h2)).trans (h3 j hj)⟩
theorem fO.set(h:fO w0 w rb yb xb E R ys cs)(k:Nat)(hk:k < cs.length)(v:Value):fO w0 (w.setCell ⟨xb,k,none⟩ v) rb yb xb E R ys (cs.set k v):=
 ⟨cE h.gr h.xlo _,AY h.env (by have:=h.lt;have:=h.xlo;omega) v,h.ylo,h.xlo,h.ne,h.lt,h.rd.gf (by have:=h.lt;have:=h.xlo;omega) _,
  h.oT.of_heap (Below.heap_setCell w ⟨xb,k,none⟩ v yb (fun e=>h.ne e.symm)),h.row.ax k hk v,
  by obtain⟨wy,h1,h2,h3,h4⟩:=h.gy;exact⟨wy,h1,h2,h3,cE h4 h1 _⟩⟩
theorem fO.cell(h:fO w0 w rb yb xb E R ys cs)(k:Nat)(hk:k < cs.length):w.cell? ⟨xb,k,none⟩=some cs[k]∧w.frozen? ⟨xb,k,none⟩=false:=⟨h.row.cell0 k hk,h.row.frozen0 k hk⟩
def ad(a:Nat):List Value:=[.int .i64 0,.int .i64 (a:Nat),.string {data:= #[]},.string {data:= #[]},.int .i64 0,.int .i64 0,.bool false,.bool false,.pointer none,.int .i64 0,.string {data:= #[]},.string {data:= #[]},.slice none 0 0]
theorem fO.start(he:Env w rb)(hr:Rdr w rb R E)(a:Nat):fO w ((w.alloc (.cells #[.int .i64 0,.int .i64 0,.string {data:= #[]},.string {data:= #[]},.int .i64 0,.int .i64 0,.bool false,.bool false,.pointer none,.int .i64 0,.string {data:= #[]},.string {data:= #[]},.slice none 0 0] 70)).alloc (.cells #[.int .i64 0,.int .i64 (a:Nat),.string {data:= #[]},.string {data:= #[]},.int .i64 0,.int .i64 0,.bool false,.bool false,.pointer none,.int .i64 0,.string {data:= #[]},.string {data:= #[]},.slice none 0 0] 70)) rb w.heap.size (w.heap.size+1) E R (ad 0) (ad a):=by
 have h1:=(Y4 w.heap.size w).alloc (Z5 _) (.cells #[.int .i64 0,.int .i64 0,.string {data:= #[]},.string {data:= #[]},.int .i64 0,.int .i64 0,.bool false,.bool false,.pointer none,.int .i64 0,.string {data:= #[]},.string {data:= #[]},.slice none 0 0] 70);have h2:=h1.alloc (by simp) (.cells #[.int .i64 0,.int .i64 (a:Nat),.string {data:= #[]},.string {data:= #[]},.int .i64 0,.int .i64 0,.bool false,.bool false,.pointer none,.int .i64 0,.string {data:= #[]},.string {data:= #[]},.slice none 0 0] 70);have hg:=ar h2 (some rb);refine⟨hg,he.grown hg hr.lt,Z5 _,Nat.le_succ _,by omega,hr.lt,hr.below h2,?_,?_,?_⟩
 ·exact(ae.new w 70 (ad 0).toArray).alloc _
 ·have:=ae.new (w.alloc (.cells (ad 0).toArray 70)) 70 (ad a).toArray;rw[World.size_alloc]at this;exact this
 ·refine⟨w.alloc (.cells (ad 0).toArray 70),by rw[World.size_alloc];exact Z5 _,ae.new w 70 (ad 0).toArray,ar h1 _,World.grownBy_alloc _ _ _⟩
theorem fO.ay(h:fO w0 w rb yb xb E R ys cs){c:C10}(hc:cs=c.row 0 [] []):∃wy:World,fA wy w rb xb E R c 0 [] []∧w0.grownBy wy (some rb)∧
  ∀w' R' r f l,fA wy w' rb xb E R' c r f l→fO w0 w' rb yb xb E R' ys (c.row r f l):=by
 obtain⟨wy,h1,h2,h3,h4⟩:=h.gy;have hlt:rb < xb:=by have:=h.lt;have:=h.xlo;omega
 refine⟨wy,⟨h4,h1,hlt,h.rd,by rw[← hc];exact h.row⟩,h3,?_⟩;intro w' R' r f l hs;have hrlt:rb < wy.heap.size:=Nat.lt_of_lt_of_le h.lt h3.size;have hyb:some yb≠some rb:=fun e=>by injection e with e;have:=h.lt;have:=h.ylo;omega
 refine⟨ah h3 hs.gr,?_,h.ylo,h.xlo,h.ne,h.lt,hs.rd,h2.of_heap (hs.gr.block yb h2.lt hyb),hs.row,wy,h1,h2,h3,hs.gr⟩;have key:∀(p:Addr),p.block < rb→w'.cell? p=w.cell? p:=fun p hlt=>
  World.cell?_of_block ((hs.gr.block p.block (Nat.lt_trans hlt hrlt) (fun e=>by injection e with e;omega)).trans (h4.block p.block (Nat.lt_trans hlt hrlt) (fun e=>by injection e with e;omega)).symm)
 have he:=h.env;refine⟨⟨he.lv.1,fun k hk=> ?_⟩,(key ⟨_,0,none⟩ he.eb).trans he.er,he.eb⟩;obtain⟨gk,ck,e1,e2,e3⟩:=he.lv.2 k hk;exact⟨gk,ck,(key ⟨_,k,none⟩ he.lv.1).trans e1,e2,fun j hj=>(key (gk.add j) (by rw[Addr.cH];exact e2)).trans (e3 j hj)⟩
end
theorem ae.ty{w:World}{g o o':Nat}{e e':TypeId}{xs ys:List Value}(h:ae w g o e xs)(h':ae w g o' e' ys):e=e':=by
 obtain⟨c,z,h1,_⟩:=h;obtain⟨c',z',h1',_⟩:=h';rw[h1]at h1';cases h1';rfl
def jy(w w':World)(rb:Nat):Prop:=∀g xs,rb < g→ae w g 0 202 xs→w'.heap[g]? =w.heap[g]?
theorem IsX.an{w w':World}{rb:Nat}(hk:jy w w' rb):∀(x:Ex.X) (b:Nat),IsX w rb b x→IsX w' rb b x
 | .num a n,b,h=>⟨h.1,h.2.of_heap (hk b _ h.1 h.2)⟩
 | .name a s,b,h=>⟨h.1,h.2.of_heap (hk b _ h.1 h.2)⟩
 | .bin a op l r,b,h=>by
  obtain⟨bl,br,h1,h2,h3,h4⟩:=h;exact⟨bl,br,h1,h2.of_heap (hk b _ h1 h2),IsX.an hk l bl h3,IsX.an hk r br h4⟩
namespace Tm
theorem qf.an{w w':World}{rb:Nat}(hk:jy w w' rb){c:Option Ex.X}{v:Value}(h:qf w rb c v):qf w' rb c v:=by
 cases c with
 |none=>exact h
 |some x=>
  obtain⟨b,h1,h2⟩:=h;exact⟨b,h1,IsX.an hk x b h2⟩
theorem Enc.an{w w':World}{rb:Nat}{ok:Nat→Prop}(hk:jy w w' rb)(ho:∀b,ok b→w'.heap[b]? =w.heap[b]?):∀(l:Its) (vs:List Value),Enc w rb ok l vs→Enc w' rb ok l vs
 | .nil,vs,e=>e
 | .cons a l,vs,e=>by
  obtain⟨cv,us,h1,h2,h3⟩:=e;exact⟨cv,us,h1.an hk,h2,Enc.an hk ho l us h3⟩
 | .when a c b l,vs,e=>by
  obtain⟨cb,ga,cap,bs,us,h1,h2,h3,h4,h5,h6⟩:=e;exact⟨cb,ga,cap,bs,us,IsX.an hk c cb h1,h2.an fun x hx=>ho _ (h3 x hx),h3,Enc.an hk ho b bs h4,h5,Enc.an hk ho l us h6⟩
theorem Enc.lt{w:World}{rb:Nat}{ok:Nat→Prop}:∀(l:Its) (vs:List Value),Enc w rb ok l vs→Enc w rb (fun b=>ok b∧b < w.heap.size) l vs
 | .nil,vs,e=>e
 | .cons a l,vs,e=>by
  obtain⟨cv,us,h1,h2,h3⟩:=e;exact⟨cv,us,h1,h2,Enc.lt l us h3⟩
 | .when a c b l,vs,e=>by
  obtain⟨cb,ga,cap,bs,us,h1,h2,h3,h4,h5,h6⟩:=e;exact⟨cb,ga,cap,bs,us,h1,h2,fun x hx=>⟨h3 x hx,h2.gY x hx⟩,Enc.lt b bs h4,h5,Enc.lt l us h6⟩
theorem Enc.app{w:World}{rb:Nat}{ok:Nat→Prop}{m:Its}{us:List Value}(hm:Enc w rb ok m us):∀(l:Its) (vs:List Value),Enc w rb ok l vs→Enc w rb ok (l.app m) (vs++us)
 | .nil,vs,e=>by rw[show vs=[]from e];exact hm
 | .cons a l,vs,e=>by
  obtain⟨cv,ys,h1,rfl,h3⟩:=e;exact⟨cv,ys++us,h1,by rw[List.append_assoc],Enc.app hm l ys h3⟩
 | .when a c b l,vs,e=>by
  obtain⟨cb,ga,cap,bs,ys,h1,h2,h3,h4,rfl,h6⟩:=e;exact⟨cb,ga,cap,bs,ys++us,h1,h2,h3,h4,by rw[List.append_assoc],Enc.app hm l ys h6⟩
theorem Enc.cells{w:World}{rb:Nat}{ok:Nat→Prop}{I:Its}{vs:List Value}(hI:I.len=1)(h:Enc w rb ok I vs):∃(k0 k1 k4 k5 k9:Nat) (s2 s3 s10 s11:ByteArray) (b6 b7:Bool) (p8 a12:Option Addr) (n12 c12:Nat),
  vs=[.int .i64 (k0:Nat),.int .i64 (k1:Nat),.string s2,.string s3,.int .i64 (k4:Nat),.int .i64 (k5:Nat),.bool b6,.bool b7,.pointer p8,.int .i64 (k9:Nat),.string s10,.string s11,.slice a12 n12 c12]:=by
 have z:∀(l:Its) (us:List Value),l.len=0→Enc w rb ok l us→us=[]:=by
  intro l us h1 h2;cases l with
  |nil=>exact h2
  |cons=>simp[Its.len]at h1
  |when=>simp[Its.len]at h1
 cases I with
 |nil=>simp[Its.len]at hI
 |cons a l=>
  obtain⟨cv,us,h1,rfl,h3⟩:=h;rw[z l us (by simpa[Its.len]using hI) h3,List.append_nil];cases hc:a.cnt with
  |none=>rw[hc]at h1;rw[show cv= .pointer none from h1];exact⟨_,_,_,_,_,_,_,_,_,_,_,_,_,_,_,rfl⟩
  |some x=>
   rw[hc]at h1;obtain⟨b,rfl,_⟩:=h1;exact⟨_,_,_,_,_,_,_,_,_,_,_,_,_,_,_,rfl⟩
 |when a c b l=>
  obtain⟨cb,ga,cap,bs,us,h1,h2,h3,h4,rfl,h6⟩:=h;rw[z l us (by simpa[Its.len]using hI) h6,List.append_nil];exact⟨_,_,0,0,0,_,_,_,_,_,_,_,_,_,_,rfl⟩
end Tm
abbrev kM(w:World)(b:Nat)(v0 v1 v2 v3 v4 v5 v6 v7 v8 v9 v10 v11 v12:Value):World:=
 (((((((((((((w.setCell ⟨b,0,none⟩ v0).setCell ⟨b,1,none⟩ v1).setCell ⟨b,2,none⟩ v2).setCell ⟨b,3,none⟩ v3).setCell ⟨b,4,none⟩ v4).setCell ⟨b,5,none⟩ v5).setCell ⟨b,6,none⟩ v6).setCell ⟨b,7,none⟩ v7).setCell ⟨b,8,none⟩ v8).setCell ⟨b,9,none⟩ v9).setCell ⟨b,10,none⟩ v10).setCell ⟨b,11,none⟩ v11).setCell ⟨b,12,none⟩ v12)
theorem gq{w:World}{b:Nat}{T:TypeId}{ys:List Value}(h:ae w b 0 T ys)(hy:ys.length=13)(v0 v1 v2 v3 v4 v5 v6 v7 v8 v9 v10 v11 v12:Value):ae (kM w b v0 v1 v2 v3 v4 v5 v6 v7 v8 v9 v10 v11 v12) b 0 T [v0,v1,v2,v3,v4,v5,v6,v7,v8,v9,v10,v11,v12]:=by
 match ys,hy with
 |[a0,a1,a2,a3,a4,a5,a6,a7,a8,a9,a10,a11,a12],_=>
  exact((((((((((((h.ax 0 (by simp) v0).ax 1 (by simp) v1).ax 2 (by simp) v2).ax 3 (by simp) v3).ax 4 (by simp) v4).ax 5 (by simp) v5).ax 6 (by simp) v6).ax 7 (by simp) v7).ax 8 (by simp) v8).ax 9 (by simp) v9).ax 10 (by simp) v10).ax 11 (by simp) v11).ax 12 (by simp) v12
theorem wI{w:World}{b:Nat}(v0 v1 v2 v3 v4 v5 v6 v7 v8 v9 v10 v11 v12:Value)(g:Nat)(hg:g≠b):(kM w b v0 v1 v2 v3 v4 v5 v6 v7 v8 v9 v10 v11 v12).heap[g]? =w.heap[g]? :=by
 have k:∀(W:World) (i:Nat) (v:Value),(W.setCell ⟨b,i,none⟩ v).heap[g]? =W.heap[g]? :=fun W i v=>Below.heap_setCell W ⟨b,i,none⟩ v g hg
 unfold kM
 iterate 13 rw[k]
theorem fO.gf{w0 w:World}{rb yb xb E:Nat}{R:List Rd.Tok}{ys cs:List Value}(h:fO w0 w rb yb xb E R ys cs)(k:Nat)(v:Value){x:Ex.X}{b:Nat}(hx:IsX w rb b x):IsX (w.setCell ⟨xb,k,none⟩ v) rb b x:=by
 refine IsX.an (fun g xs _ hg=>Below.heap_setCell w ⟨xb,k,none⟩ v g ?_) x b hx;rintro rfl;exact absurd (h.row.ty hg) (by decide)
theorem fO.fin{w0 w:World}{rb yb xb E:Nat}{R:List Rd.Tok}{ys cs:List Value}(h:fO w0 w rb yb xb E R ys cs)(hy:ys.length=13)(v0 v1 v2 v3 v4 v5 v6 v7 v8 v9 v10 v11 v12:Value):
  Rdr (kM w yb v0 v1 v2 v3 v4 v5 v6 v7 v8 v9 v10 v11 v12) rb R E∧w0.grownBy (kM w yb v0 v1 v2 v3 v4 v5 v6 v7 v8 v9 v10 v11 v12) (some rb)∧jy w (kM w yb v0 v1 v2 v3 v4 v5 v6 v7 v8 v9 v10 v11 v12) rb:=by
 have hne:rb < yb:=by have:=h.lt;have:=h.ylo;omega
 refine⟨?_,?_,?_⟩
 ·exact(((((((((((((h.rd.gf hne v0).gf hne v1).gf hne v2).gf hne v3).gf hne v4).gf hne v5).gf hne v6).gf hne v7).gf hne v8).gf hne v9).gf hne v10).gf hne v11).gf hne v12)
 ·exact cE (cE (cE (cE (cE (cE (cE (cE (cE (cE (cE (cE (cE h.gr h.ylo v0) h.ylo v1) h.ylo v2) h.ylo v3) h.ylo v4) h.ylo v5) h.ylo v6) h.ylo v7) h.ylo v8) h.ylo v9) h.ylo v10) h.ylo v11) h.ylo v12
 ·intro g xs _ hg;refine wI _ _ _ _ _ _ _ _ _ _ _ _ _ g ?_;rintro rfl;have:=h.oT.ty hg;exact absurd this (by decide)
theorem fO.KD{w0 w:World}{rb yb xb E:Nat}{R:List Rd.Tok}{ys cs:List Value}(h:fO w0 w rb yb xb E R ys cs)(k:Nat)(v v0 v1 v2 v3 v4 v5 v6 v7 v8 v9 v10 v11 v12:Value):
  jy w (kM (w.setCell ⟨xb,k,none⟩ v) yb v0 v1 v2 v3 v4 v5 v6 v7 v8 v9 v10 v11 v12) rb∧∀b,b≠xb→b≠yb→(kM (w.setCell ⟨xb,k,none⟩ v) yb v0 v1 v2 v3 v4 v5 v6 v7 v8 v9 v10 v11 v12).heap[b]? =w.heap[b]? :=by
 have hk:∀b,b≠xb→b≠yb→(kM (w.setCell ⟨xb,k,none⟩ v) yb v0 v1 v2 v3 v4 v5 v6 v7 v8 v9 v10 v11 v12).heap[b]? =w.heap[b]? :=fun b h1 h2=>(wI _ _ _ _ _ _ _ _ _ _ _ _ _ b h2).trans (Below.heap_setCell w ⟨xb,k,none⟩ v b h1)
 refine⟨fun g xs _ hg=>hk g ?_ ?_,hk⟩
 ·rintro rfl;exact absurd (h.row.ty hg) (by decide)
 ·rintro rfl;exact absurd (h.oT.ty hg) (by decide)
end
section
open Go Go.RowKit
open Rd
open Ly
theorem zo{V w:World}{rb bx:Nat}{x:Ex.X}(h:IsX V rb bx x)(hb:Below V.heap.size V w):IsX w rb bx x:=IsX.an (fun g xs _ hr=>hb.block g hr.lt) x bx h
theorem CL(b m n rb cb:Nat)(F:Value)(s:Tm.Wd)(g o:Nat)(st:St)(S:Sub)(N:Ex.Names)(h:Tm.Hd)(c:Ex.X)(U w:World)(hL:LR w b F s st)(hg:g≠b)(hs:s.length≤1000000)(hk:h.k= .bytes)(hc:h.cnt=some c)
  (hf:Ex.kK Num.numOf Num.dec c)(hU:Below U.heap.size U w)(hbU:U.heap.size≤b)(hx:IsX U rb cb c)(hN:NmM w m n N)(hm:m≠b)
  (hr:ae w g o 70 (Tm.ag h (.pointer (some ⟨cb,0,none⟩)))):
  Calls Tryz.prog 30 #[.pointer (some ⟨b,0,none⟩),.pointer (some ⟨g,o,none⟩),.map (some m)] w (gp w b none F s st (bL S s N h st)):=by
 have hglt:=hr.lt;have hblt:=hL.row.lt;obtain⟨W0,hW0⟩:∃W0,W0=w.alloc (.cells cM.toArray 28):=⟨_,rfl⟩;have hr0:ae W0 g o 70 (Tm.ag h (.pointer (some ⟨cb,0,none⟩))):=by rw[hW0];exact hr.alloc _
 have hL0:LR W0 b F s st:=by rw[hW0];exact hL.an (Below.heap_alloc _ _ _ hblt)
 have c0:=hr0.cell 0 (by simp[Tm.aj]);have c2:=hr0.cell 2 (by simp[Tm.aj]);have hnd:=jx b F s (h.name) 2 g o st W0 hL0 hg c2;have c0':W0.cell? ⟨g,o,none⟩=some (.int .i64 2):=by
  have:=c0;simp only[Tm.ag,hk,Tm.aJ,Z0,Y2]at this;exact this
 have HND:=hid (show Calls Tryz.prog 60 #[.pointer (some ⟨b,0,none⟩),.pointer (some ⟨g,o,none⟩),.int .i64 2] W0 (fB W0 b F s (h.name) 2 st)from hnd);have HR0:=hid hr0;have HL:=hid hL;rw[hW0]at c0';have HW0:=hid hW0;clear hnd c0 c2 hr0 hL0 hr hL hW0;go_enter Tryz.func30,Tryz.ntmps30;go_wp2_with fail;rw[← HW0.out];refine HND.out.mono ?_;intro e w1 hno;unfold fB at hno;cases hn:nod st with
 |none=>
  rw[hn]at hno;obtain⟨hb1,t,v,he⟩:=hno;unfold bC at he;subst he;have HB1:=hid hb1;have ho:bL S s N h st=none:=by unfold bL;rw[hn];rfl
  rw[ho];clear hb1 ho hn;go_wp2_with fail;exact⟨rfl,mg HW0.out HB1.out hblt,t,v,rfl⟩
 |some st1=>
  rw[hn]at hno;obtain⟨hb1,he,hL1⟩:=hno;have he2:e= .returned (.agg #[.string (aa (h.name)),.int .i64 2,.int .i64 (st.at_:Nat),.int .i64 0,.int .i64 0,.string {data:= #[]},.slice none 0 0]):=he;subst he2;have hat:st1.at_=st.at_:=lx hn;have hbs:=BxS.start (m:=none) (nm:=h.name) (kd:=2) HL.out HW0.out hb1 hL1 (fun x e=>by cases e);have hbx:ae (w1.alloc (.cells #[.string {data:= #[]},.int .i64 0,.int .i64 0,.int .i64 0,.int .i64 0,.string {data:= #[]},.slice none 0 0] 28)) w1.heap.size 0 28 [.string {data:= #[]},.int .i64 0,.int .i64 0,.int .i64 0,.int .i64 0,.string {data:= #[]},.slice none 0 0]:=ae.new w1 28 #[.string {data:= #[]},.int .i64 0,.int .i64 0,.int .i64 0,.int .i64 0,.string {data:= #[]},.slice none 0 0];have y0:=hbx.cell0 0 (by simp);have z0:=hbx.frozen0 0 (by simp);have y1:=hbx.cell0 1 (by simp);have z1:=hbx.frozen0 1 (by simp);have y2:=hbx.cell0 2 (by simp);have z2:=hbx.frozen0 2 (by simp);have y3:=hbx.cell0 3 (by simp);have z3:=hbx.frozen0 3 (by simp);have y4:=hbx.cell0 4 (by simp);have z4:=hbx.frozen0 4 (by simp);have y5:=hbx.cell0 5 (by simp);have z5:=hbx.frozen0 5 (by simp);have y6:=hbx.cell0 6 (by simp);have z6:=hbx.frozen0 6 (by simp);simp only[Z0,Z1]at y0 y1 y2 y3 y4 y5 y6;have hg0:g < W0.heap.size:=HR0.out.lt;have hr1:ae w1 g o 70 (Tm.ag h (.pointer (some ⟨cb,0,none⟩))):=HR0.out.of_heap (hb1.block g hg0 hg (fun e=>by cases e));obtain⟨V,hV⟩:∃V,V=w1.alloc (.cells #[.string (aa (h.name)),.int .i64 2,.int .i64 (st.at_:Nat),.int .i64 0,.int .i64 0,.string {data:= #[]},.slice none 0 0] 28):=⟨_,rfl⟩;have hr2:ae V g o 70 (Tm.ag h (.pointer (some ⟨cb,0,none⟩))):=by rw[hV];exact hr1.alloc _
  have hbs2:BxS w V b w1.heap.size none F s st1 (ab (h.name) 2 st.at_ 0 0 [] (.slice none 0 0)):=by rw[hV];exact hbs
  have hgn:g≠w1.heap.size:=by have:=hr1.lt;omega
  have HR2:=hid hr2;have HBS:=hid hbs2;have HV:=hid hV;have k8:=hr2.cell 8 (by simp[Tm.aj]);have k0:=hr2.cell 0 (by simp[Tm.aj]);simp only[Tm.ag,hk,Tm.aJ,Z0,Z1,Y2]at k8 k0;have hUV:Below U.heap.size U V:=But.below hU hbs2.but hU.size hbU (fun x e=>by cases e);have hNV:NmM V m n N:=hN.an (hbs2.but.block m hN.lt hm (fun e=>by cases e));obtain⟨kn,hNA⟩:=hNV.at_;have HNUM:=hid (ly V rb cb kn c _ N hNA (zo hx hUV) hf);have HRG:=hid (fun v=>Ex.vQ hNA.rng c hf v);rw[hV]at k8 k0;clear hb1 hL1 he hbx hr1 hr2 hbs hbs2 hV hNA hNV hUV;go_wp2_with fail;rw[← HV.out];refine HNUM.out.mono ?_;unfold ql;rintro e w2 ⟨hb2,hv⟩;clear y0 y1 y2 y3 y4 y5 y6 z0 z1 z2 z3 z4 z5 z6 k8 k0;have hs2:=HBS.out.up hb2;have HS2:=hid hs2;cases hev:Ex.ev N c with
  |none=>
   rw[hev]at hv;obtain⟨t,v,he⟩:=hv;unfold bC at he;subst he;have ho:bL S s N h st=none:=by unfold bL;rw[hn,hk,hc];simp only[Option.bind_some,hev];rfl
   rw[ho];clear hb2 hs2 ho hn hev;go_wp2_with fail;exact⟨rfl,HS2.out.but,t,v,rfl⟩
  |some v=>
   rw[hev]at hv;have hv2:e= .returned (.int .i64 v):=hv;subst hv2;obtain⟨g1,g2⟩:=HRG.out v hev;have HTK:=hid (sQ b F s st1 v _ hs2.lr hs g1 g2);clear hb2 hs2 g1 g2;go_wp2_with fail;refine HTK.out.mono ?_;unfold zm;rintro e w3 ⟨hg3,ht⟩;have hb3:But w2 w3 b none:=But.wG hg3;have HB3:=hid hb3;cases htk:tak s v st1 with
   |none=>
    rw[htk]at ht;obtain⟨t,v,he⟩:=ht;unfold bC at he;subst he;have ho:bL S s N h st=none:=by unfold bL;rw[hn,hk,hc];simp only[Option.bind_some,hev,htk];rfl
    rw[ho];clear hg3 hb3 ho hn htk hev;go_wp2_with fail;exact⟨rfl,HS2.out.but.trans HB3.out,t,v,rfl⟩
   |some p=>
    obtain⟨u,st2⟩:=p;rw[htk]at ht;obtain⟨rfl,hl2⟩:=ht;have ho:bL S s N h st=some (⟨h.name,2,st.at_,st2.at_ - st.at_,0,u,.nil⟩,st2):=by unfold bL;rw[hn,hk,hc];simp only[Option.bind_some,hev,htk];rfl
    have HO:=hid ho;have htl:st1.at_≤st2.at_∧st2.at_≤s.length:=by
     obtain⟨h1,h2,h3⟩:=uA htk HBS.out.lr.len;exact⟨h1.le,h1.len⟩
    have HNX:=hid (show st.n < st2.n by have h1:=oF hn;have h2:=Jg htk;omega);obtain⟨hat1,hat2⟩:=htl;have hs3:=HS2.out.move hb3 hl2;have HS3:=hid hs3;have d5:=(hs3.cell 5 (by simp[ab])).1;have e5:=(hs3.cell 5 (by simp[ab])).2;simp only[ab,Z0,Z1]at d5;have hs4:=hs3.set 5 (by simp[ab]) (.string (aa u));simp only[ab,Z2,Z3]at hs4;have HS4:=hid hs4;clear hg3 hb3 hl2 hs3 hs4 ho;go_wp2_with fail;obtain⟨W,hW⟩:∃W,W=w3.setCell ⟨w1.heap.size,5,none⟩ (.string (aa u)):=⟨_,rfl⟩;have hs5:BxS w W b w1.heap.size none F s st2 [.string (aa (h.name)),.int .i64 ((2:Nat):Int),.int .i64 (st.at_:Nat),.int .i64 ((0:Nat):Int),.int .i64 (0),.string (aa (u)),.slice none 0 0]:=by rw[hW];exact HS4.out
    rw[← hW];have q2:=(hs5.cell 2 (by simp)).1;have q3:=(hs5.cell 3 (by simp)).1;have u3:=(hs5.cell 3 (by simp)).2;have qr:=hs5.lr.row.cell0 2 (by simp);simp only[Z0,Z1]at q2 q3 qr;have hsz:(st2.at_:Int) - (st.at_:Int)=((st2.at_ - st.at_:Nat):Int):=by omega
    have wq:wrap64 ((st2.at_:Int) - (st.at_:Int))=(st2.at_:Int) - (st.at_:Int):=IntWalk.wrap64_in _ ⟨by omega,by omega⟩;have HSZ:=hid hsz;have HS5:=hid hs5;clear hsz hs5 hW;go_still_tail 8,(by kernel_rfl);change wpList _ _ _ _ _ W.drew;obtain⟨X,hX⟩:∃X,X=W.drew:=⟨_,rfl⟩;rw[← hX];have hs6:=HS5.out.drewN 1;rw[show W.drewN 1=X from hX.symm]at hs6;have y3:=(hs6.cell 3 (by simp)).1;have u3:=(hs6.cell 3 (by simp)).2;simp only[Z0,Z1]at y3;have hsX:=hs6.set 3 (by simp) (.int .i64 ((st2.at_:Int) - (st.at_:Int)));simp only[Z2,Z3]at hsX;have HSX:=hid hsX;have HXW:=hid (show ∀k:Nat,X.heap[k]? =W.heap[k]? from fun k=>by rw[hX];rfl);clear hX hs6 q2 q3 qr;have r0:=(hsX.cell 0 (by simp)).1;have r1:=(hsX.cell 1 (by simp)).1;have r2:=(hsX.cell 2 (by simp)).1;have r3:=(hsX.cell 3 (by simp)).1;have r4:=(hsX.cell 4 (by simp)).1;have r5:=(hsX.cell 5 (by simp)).1;have r6:=(hsX.cell 6 (by simp)).1;simp only[Z0,Z1]at r0 r1 r2 r3 r4 r5 r6;have x0:=hsX.res.cell0 0 (by simp);have v0:=hsX.res.frozen0 0 (by simp);have x1:=hsX.res.cell0 1 (by simp);have v1:=hsX.res.frozen0 1 (by simp);have x2:=hsX.res.cell0 2 (by simp);have v2:=hsX.res.frozen0 2 (by simp);have x3:=hsX.res.cell0 3 (by simp);have v3:=hsX.res.frozen0 3 (by simp);have x4:=hsX.res.cell0 4 (by simp);have v4:=hsX.res.frozen0 4 (by simp);have x5:=hsX.res.cell0 5 (by simp);have v5:=hsX.res.frozen0 5 (by simp);have x6:=hsX.res.cell0 6 (by simp);have v6:=hsX.res.frozen0 6 (by simp);simp only[Z0,Z1]at x0 x1 x2 x3 x4 x5 x6;clear hsX;go_wp2_with fail;clear r0 r1 r2 r3 r4 r5 r6;have p0:=HSX.out.res.ax 0 (by simp) (.string (aa (h.name)));have r0:=p0.cell0 0 (by simp);have p1:=p0.ax 1 (by simp) (.int .i64 2);have r1:=p1.cell0 1 (by simp);have p2:=p1.ax 2 (by simp) (.int .i64 (st.at_:Nat));have r2:=p2.cell0 2 (by simp);have p3:=p2.ax 3 (by simp) (.int .i64 ((st2.at_:Int) - (st.at_:Int)));have r3:=p3.cell0 3 (by simp);have p4:=p3.ax 4 (by simp) (.int .i64 (0));have r4:=p4.cell0 4 (by simp);have p5:=p4.ax 5 (by simp) (.string (aa (u)));have r5:=p5.cell0 5 (by simp);have p6:=p5.ax 6 (by simp) (.slice none 0 0);have r6:=p6.cell0 6 (by simp);simp only[Z2,Z3,Z0,Z1]at r0 r1 r2 r3 r4 r5 r6;have hfin:=HSX.out.result (.string (aa (h.name))) (.int .i64 2) (.int .i64 (st.at_:Nat)) (.int .i64 ((st2.at_:Int) - (st.at_:Int))) (.int .i64 (0)) (.string (aa (u))) (.slice none 0 0);clear p0 p1 p2 p3 p4 p5 p6;refine bodyPost_ret (v:= .agg #[.string (aa (h.name)),.int .i64 2,.int .i64 (st.at_:Nat),.int .i64 ((st2.at_:Int) - (st.at_:Int)),.int .i64 (0),.string (aa (u)),.slice none 0 0]) (by simp[results,Tryz.results30,go_sem,r0,r1,r2,r3,r4,r5,r6];first|done|rfl) rfl ?_;refine⟨hfin.1,?_⟩;rw[HO.out];refine⟨⟨_,[],rfl,?_,List.nodup_nil⟩,hfin.2.1,show st.at_≤st2.at_ by omega,HNX.out⟩;rw[HSZ.out];exact NdV.leaf _ _ _ _ _ _ _ _
end
section
open Go Go.RowKit Go.Maps Go.WideElems Go.ChangeMaps Go.WideMaps
def wJ(v:Value):Option (DataW Value×List MemPlace):=some (.held v,[])
def CM(F:Lit→Option Value)(c:Lit)(v:Value):Lit→Option Value:=fun x=>if x.sameKey c then some v else F x
theorem sV(F:Lit→Option Value){c:Lit}(hc:WideAt.IsKeyLit c)(v:Value):CM F c v c=some v:=if_pos (WideAt.sameKey_self hc)
theorem lz(F:Lit→Option Value){c x:Lit}(v:Value)(h:x≠c):CM F c v x=F x:=by unfold CM;rw[sameKey_ne h,if_neg (by decide)]
def atL(o:Option Value)(z:DataW Value):DataW Value:=match o with
 |none=>z
 |some v=> .held v
def fC(P:Program)(k:TypeId)(w:World)(b n:Nat)(F:Lit→Option Value):Prop:=
 ∃D:DataW Value,w.ownsMap P k wJ b n D∧IsMap D∧∀kl,WideAt.IsKeyLit kl→∀z,D.atKey kl z=atL (F kl) z
section
variable{P:Program}{t k e:TypeId}{w:World}{b n:Nat}{F:Lit→Option Value}
theorem fC.made(w:World):fC P k (w.alloc (.map #[] 0)) w.heap.size 0 (fun _=>none):=
 ⟨.map [],World.ownsMap_made _ _ _ _,isMap_empty,fun c _ z=>rfl⟩
theorem fC.an{w':World}(h:fC P k w b n F)(hh:w'.heap[b]? =w.heap[b]?):fC P k w' b n F:=by
 obtain⟨D,⟨es,clock,hb,h1⟩,h2⟩:=h;exact⟨D,⟨es,clock,hh.trans hb,h1⟩,h2⟩
theorem fC.lt(h:fC P k w b n F):b < w.heap.size:=by obtain⟨D,h1,_⟩:=h;exact h1.lt
theorem fC.block(h:fC P k w b n F):∃es clock,w.heap[b]? =some (.map es clock):=by
 obtain⟨D,⟨es,clock,hb,_⟩,_⟩:=h;exact⟨es,clock,hb⟩
theorem fC.has{D:DataW Value}(h3:∀kl,WideAt.IsKeyLit kl→∀z,D.atKey kl z=atL (F kl) z){kl:Lit}(hl:WideAt.IsKeyLit kl):Maps.has D kl=(F kl).isSome:=by
 cases hF:F kl with
 |none=>exact has_false_of_atKey fun z=>by rw[h3 kl hl z,hF];rfl
 |some v=>exact has_true_of_atKey (y:= .held v) fun z=>by rw[h3 kl hl z,hF];rfl
theorem fC.look(h:fC P k w b n F)(K:Keyed P k)(ht:P.underlying t=some (.map k e)){z:Value}(hz:(zeroValue e).run P w= .ok z w){key:Value}{kl:Lit}(hkey:keyOf P k key=some kl)(hl:WideAt.IsKeyLit kl):
  (Instr.lookup t (.map (some b)) key false).run P w= .ok ((F kl).getD z) w:=by
 obtain⟨D,h1,h2,h3⟩:=h;obtain⟨v,ps,hrun,hv⟩:=h1.lookup K ht hz (show wJ z=some (.held z,[])from rfl) hkey;rw[h3 kl hl]at hv;rw[hrun];cases hF:F kl with
 |none=>
  rw[hF]at hv;simp only[wJ,atL,Option.some.injEq,Prod.mk.injEq,DataW.held.injEq]at hv;rw[hv.1];rfl
 |some u=>
  rw[hF]at hv;simp only[wJ,atL,Option.some.injEq,Prod.mk.injEq,DataW.held.injEq]at hv;rw[hv.1];rfl
theorem fC.look_ok(h:fC P k w b n F)(K:Keyed P k)(ht:P.underlying t=some (.map k e)){z:Value}(hz:(zeroValue e).run P w= .ok z w){key:Value}{kl:Lit}(hkey:keyOf P k key=some kl)(hl:WideAt.IsKeyLit kl):
  (Instr.lookup t (.map (some b)) key true).run P w= .ok (.tuple #[(F kl).getD z,.bool (F kl).isSome]) w:=by
 obtain⟨D,h1,h2,h3⟩:=h;obtain⟨v,ps,hrun,hv⟩:=h1.look_ok K ht hz (show wJ z=some (.held z,[])from rfl) hkey;rw[h3 kl hl]at hv;rw[hrun,fC.has h3 hl];cases hF:F kl with
 |none=>
  rw[hF]at hv;simp only[wJ,atL,Option.some.injEq,Prod.mk.injEq,DataW.held.injEq]at hv;rw[hv.1];rfl
 |some u=>
  rw[hF]at hv;simp only[wJ,atL,Option.some.injEq,Prod.mk.injEq,DataW.held.injEq]at hv;rw[hv.1];rfl
theorem fC.store(h:fC P k w b n F)(K:Keyed P k)(ht:P.underlying t=some (.map k e))(hn:n < maxLen){key val:Value}{kl:Lit}(hkey:keyOf P k key=some kl)(hl:WideAt.IsKeyLit kl):
  ∃w',(Instr.mapUpdate t (.map (some b)) key val).run P w= .ok () w'∧fC P k w' b (n+1) (CM F kl val)∧w.grownBy w' (some b)∧w'.heap.size=w.heap.size:=by
 obtain⟨D,h1,h2,h3⟩:=h;obtain⟨w',hrun,ho,hg⟩:=h1.store K ht hn hkey (show wJ val=some (.held val,[])from rfl);have hsz:w'.heap.size=w.heap.size:=by
  obtain⟨es,clock,es',clock',hb,rfl⟩:=hg;simp[ChangeMaps.setBlock]
 refine⟨w',hrun,⟨_,ho,h2.put _ _,fun x hx z=> ?_⟩,hg.grown,hsz⟩
 by_cases hxc:x=kl
 ·subst hxc;rw[atKey_put_same h2 hx,sV F hx];rfl
 ·rw[atKey_put_other hxc,lz F _ hxc];exact h3 x hx z
end
theorem se{P:Program}(w:World){ops:Array Oper}{rest:List Oper}{o:Oper}{a:Act}{Q:Exit→Act→World→Prop}
  (hg:o.guard=none)(m x v:Operand)(t:TypeId)(hop:o.op=Op.mapUpdate t m x v)(k e:TypeId)(ht:P.underlying t=some (.map k e))(K:Keyed P k)
  (b n:Nat)(F:Lit→Option Value)(hm:a.eval m= .map (some b))(h:fC P k w b n F)(hn:n < maxLen)(key val:Value)(kl:Lit)(hkey:keyOf P k key=some kl)(hl:WideAt.IsKeyLit kl)(hx:a.eval x=key)(hv:a.eval v=val)
  (hK:∀w',fC P k w' b (n+1) (CM F kl val)→w.grownBy w' (some b)→w'.heap.size=w.heap.size→wpList P ops Q rest (a.put o.dst undef) w'):
  wpList P ops Q (o::rest) a w:=by
 refine wpList_plain hg fun K' hK'=> ?_
 obtain⟨w',hrun,r1,r2,r3⟩:=h.store (val:=val) K ht hn hkey hl;unfold Oper.wp;simp[execOp,hop,hm,hx,hv,hrun,Result.andThen];exact hK' _ _ (hK w' r1 r2 r3)
theorem mi(s:List UInt8):WideAt.IsKeyLit (.string s):=by unfold WideAt.IsKeyLit;trivial
theorem uC{P:Program}{k:TypeId}(hk:P.underlying k=some .string)(s:List UInt8)(hs:s.length≤200000000000000):keyOf P k (.string (aa s))=some (.string s):=
 WideMaps.keyOf_string_mk hk (by rw[aq];show s.length≤9223372036854775807;omega)
end
section
open Go.RowKit
open Rd
def kp(w0:World)(rb E d:Nat)(T:List Rd.Tok)(e:Ending)(w':World):Prop:=
 (∃I R cs,Tm.ir E d T I R∧e= .returned (.agg cs.toArray)∧Tm.Enc w' rb (fun b=>w0.heap.size≤b) I cs∧Rdr w' rb R E∧w0.grownBy w' (some rb))∨((∀I R,¬Tm.ir E d T I R)∧Bad w0 rb e w')
def jz(w0:World)(rb E d:Nat)(T:List Rd.Tok)(e:Ending)(w':World):Prop:=
 (∃l R ga cap bs,Tm.nG E d T l R∧e= .returned (.slice ga (Tm.Its.len l) cap)∧ak w' w0.heap.size 70 13 ga (Tm.Its.len l) cap bs∧Tm.Enc w' rb (fun b=>w0.heap.size≤b) l bs∧Rdr w' rb R E∧w0.grownBy w' (some rb))∨((∀l R,¬Tm.nG E d T l R)∧Bad w0 rb e w')
def nM(rb E d:Nat)(T:List Rd.Tok):Prop:=∀w,Env w rb→Rdr w rb T E→Calls Tryz.prog 55 #[.pointer (some ⟨rb,0,none⟩),.int .i64 (d:Nat)] w (jz w rb E d T)
def Fg(rb E d:Nat)(T:List Rd.Tok):Prop:=∀w,Env w rb→Rdr w rb T E→Calls Tryz.prog 89 #[.pointer (some ⟨rb,0,none⟩),.int .i64 (d:Nat)] w (kp w rb E d T)
theorem mj(w:World)(rb E:Nat)(T:List Rd.Tok)(m:Tm.Wd)(hm:m≠[])(hr:Rdr w rb T E):
  Calls Tryz.prog 85 #[.pointer (some ⟨rb,0,none⟩),.string (aa m)] w fun e w'=>(∃t R,T=t::R∧t.1=m∧e= .returned (.bool true)∧Rdr w' rb R E∧w.grownBy w' (some rb))∨(Tm.al T≠m∧e= .returned (.bool false)∧w'=w):=by
 have hto:al T=Tm.al T:=by cases T <;> rfl
 by_cases h:Tm.al T=m
 ·cases T with
  |nil=>exact absurd h.symm hm
  |cons t R=>
   have h2:t.1=m:=h;subst h2;exact(eA rb t R E w hr hm).mono fun e w' h=> .inl ⟨t,R,rfl,rfl,h⟩
 ·exact(dq rb T E m w hr hm (by rw[hto];exact h)).mono fun e w' g=> .inr ⟨h,g⟩
end
end Go.Proofs.YtlomecfhobehnaaGreatDoor
