import Derived.Test.YtlomecfhobehnaaGreatDoorChecked
import Derived.Test.YtlomecfhobehnaaGreatDoorMgFixTwice0
import Derived.Test.YtlomecfhobehnaaGreatDoorMgFixTwice1
import Derived.Test.YtlomecfhobehnaaGreatDoorMgFixTwice37
import Derived.Test.YtlomecfhobehnaaGreatDoorMgFixTwice34
set_option linter.unusedVariables false
set_option linter.unusedSimpArgs false
namespace Go.Proofs.YtlomecfhobehnaaGreatDoor
open Lib (hid)
section
open Go.RowKit
structure gf where
 w:Nat
 p:Nat
 t:Bool
 i:Nat
 o:Nat
structure gf.Ok(m:gf):Prop where
 w:m.w=8∨m.w=16∨m.w=32
 p:m.p < 2 ^ m.w
 odd:m.p % 2=1
 i:m.i < 2 ^ m.w
 o:m.o < 2 ^ m.w
def dD(n:Nat):Nat→Nat
 |0=>0
 |k+1=>dD n k * 2+n / 2 ^ k % 2
def lR(w p r:Nat):Nat:=(r * 2 % 2 ^ w)^^^(p * (r / 2 ^ (w - 1) % 2))
def iS(w p r:Nat):Nat→Nat
 |0=>r
 |k+1=>lR w p (iS w p r k)
def cOf(m:gf)(c:Nat):Nat:=if m.t then dD c 8 else c
def rQ(m:gf)(r c:Nat):Nat:=iS m.w m.p (r^^^cOf m c * 2 ^ (m.w - 8)) 8
def kq(m:gf)(r:Nat):List UInt8→Nat
 |[]=>r
 |c::l=>kq m (rQ m r c.toNat) l
def Dj(m:gf)(r:Nat):Nat:=(if m.t then dD r m.w else r)^^^m.o
def ofN(m:gf)(l:List UInt8):Nat:=Dj m (kq m m.i l)
theorem ij(n k:Nat):dD n k < 2 ^ k:=by
 induction k with
 |zero=>simp[dD]
 |succ k ih=>have:n / 2 ^ k % 2 < 2:=Nat.mod_lt _ (by decide);rw[dD,Nat.pow_succ];omega
theorem yn(m:gf)(l:List UInt8)(c:UInt8):∀r,kq m r (l++[c])=rQ m (kq m r l) c.toNat:=by
 induction l with
 |nil=>intro r;rfl
 |cons x l ih=>intro r;exact ih _
theorem yo(m:gf)(r:Nat)(l:List UInt8)(k:Nat)(h:k < l.length):kq m r (l.take (k+1))=rQ m (kq m r (l.take k)) (l.getD k 0).toNat:=by
 rw[List.take_succ_eq_append_getElem h,yn,List.getD_eq_getElem?_getD,Y1 h];rfl
theorem pR(w p r:Nat)(hp:p < 2 ^ w):lR w p r < 2 ^ w:=by
 unfold lR
 apply Nat.xor_lt_two_pow (Nat.mod_lt _ (Nat.pow_pos (by decide)))
 have:r / 2 ^ (w - 1) % 2 < 2:=Nat.mod_lt _ (by decide)
 generalize r / 2 ^ (w - 1) % 2=b at *
 obtain rfl|rfl:b=0∨b=1:=by omega
 ·simpa using Nat.pow_pos (by decide)
 ·simpa using hp
theorem vH(w p r k:Nat)(hp:p < 2 ^ w)(hr:r < 2 ^ w):iS w p r k < 2 ^ w:=by
 cases k with
 |zero=>exact hr
 |succ k=>exact pR _ _ _ hp
theorem FY(m:gf)(c:Nat)(hc:c < 256):cOf m c < 256:=by
 unfold cOf;split
 ·exact ij c 8
 ·exact hc
theorem tj(m:gf)(h:m.Ok)(c:Nat)(hc:c < 256):cOf m c * 2 ^ (m.w - 8) < 2 ^ m.w:=by
 have h1:=FY m c hc
 have e:2 ^ m.w=256 * 2 ^ (m.w - 8):=by
  rw[show(256:Nat)=2 ^ 8 from rfl,← Nat.pow_add];congr 1;have:=h.w;omega
 rw[e]
 exact Nat.mul_lt_mul_of_pos_right h1 (Nat.pow_pos (by decide))
theorem Dk(m:gf)(h:m.Ok)(r c:Nat)(hr:r < 2 ^ m.w)(hc:c < 256):rQ m r c < 2 ^ m.w:=
 vH _ _ _ _ h.p (Nat.xor_lt_two_pow hr (tj m h c hc))
theorem pS(m:gf)(h:m.Ok):∀l r,r < 2 ^ m.w→kq m r l < 2 ^ m.w
 |[],r,hr=>hr
 |c::l,r,hr=>pS m h l _ (Dk m h r _ hr (UInt8.toNat_lt _))
theorem EU(m:gf)(h:m.Ok)(r:Nat)(hr:r < 2 ^ m.w):Dj m r < 2 ^ m.w:=by
 unfold Dj
 apply Nat.xor_lt_two_pow _ h.o
 split
 ·exact ij _ _
 ·exact hr
theorem FZ(m:gf)(h:m.Ok):2 ^ m.w≤4294967296:=by
 rcases h.w with e|e|e <;> rw[e] <;> decide
theorem mR(x:Nat)(hx:x < 4294967296):bits .and .u32 (x:Int) 1=((x % 2:Nat):Int):=by
 have:=u32_and_nat x 1 hx (by decide)
 rw[nat_mask1]at this
 exact this
theorem Bu(n t k:Nat)(ht:t < 2 ^ k)(hk:k < 32)(hn:n < 4294967296)(hT:dD n k=t):
  bits .or .u32 (IntKind.u32.wrap ((t:Int) * 2)) (bits .and .u32 ((n / 2 ^ k:Nat):Int) 1)=((dD n (k+1):Nat):Int):=by
 have h1:n / 2 ^ k≤n:=Nat.div_le_self _ _
 have h2:2 ^ k≤2 ^ 31:=Nat.pow_le_pow_right (by decide) (by omega)
 have e:((t:Int) * 2)=((t * 2:Nat):Int):=by simp
 rw[mR _ (by omega),e,IntWalk.u32_in _ ⟨by omega,by omega⟩,u32_or_nat _ _ (by omega) (by omega),nat_join 1 _ _ (by simp) (by omega),dD,hT]
theorem Bv(n k:Nat):((n / 2 ^ k:Nat):Int) / 2=((n / 2 ^ (k+1):Nat):Int):=by
 rw[Nat.pow_succ,← Nat.div_div_eq_div_mul];simp
theorem EV(r c k:Nat)(hr:r < 4294967296)(h:c * 2 ^ k < 4294967296):
  bits .xor .u32 (r:Int) ((c:Int) * 2 ^ k % 4294967296)=((r^^^c * 2 ^ k:Nat):Int):=by
 have e:((c:Int) * 2 ^ k % 4294967296)=((c * 2 ^ k:Nat):Int):=by
  rw[show((c:Int) * 2 ^ k)=((c * 2 ^ k:Nat):Int)from by simp];omega
 rw[e,u32_xor_nat _ _ hr h]
theorem vI(r k:Nat)(hr:r < 4294967296):bits .and .u32 ((r:Int) / 2 ^ k) 1=((r / 2 ^ k % 2:Nat):Int):=by
 have h:r / 2 ^ k≤r:=Nat.div_le_self _ _
 rw[show((r:Int) / 2 ^ k)=((r / 2 ^ k:Nat):Int)from by simp]
 exact mR _ (by omega)
theorem rR(w p r x:Nat)(hw:w=8∨w=16∨w=32)(hp:p < 2 ^ w)(hr:r < 2 ^ w)(hx:r / 2 ^ (w - 1) % 2=x):
  bits .and .u32 (IntKind.u32.wrap ((r:Int) * 2)) ((2 ^ w - 1:Nat):Int)=((r * 2 % 2 ^ w:Nat):Int)∧IntKind.u32.wrap ((p:Int) * (x:Int))=((p * x:Nat):Int)∧
  bits .xor .u32 ((r * 2 % 2 ^ w:Nat):Int) ((p * x:Nat):Int)=((lR w p r:Nat):Int):=by
 have hl:2 ^ w≤4294967296:=by rcases hw with e|e|e <;> rw[e] <;> decide
 have h0:0 < 2 ^ w:=Nat.pow_pos (by decide)
 have hx2:x < 2:=by rw[← hx];exact Nat.mod_lt _ (by decide)
 have hpx:p * x≤p * 1:=Nat.mul_le_mul_left _ (by omega)
 have hm:r * 2 % 2 ^ w < 2 ^ w:=Nat.mod_lt _ h0
 refine⟨?_,?_,?_⟩
 ·have e:IntKind.u32.wrap ((r:Int) * 2)=((r * 2 % 4294967296:Nat):Int):=by rw[IntKind.wrap_u32'];omega
  rw[e,u32_and_nat _ _ (Nat.mod_lt _ (by decide)) (by omega),Nat.and_two_pow_sub_one_eq_mod]
  congr 1
  rw[show(4294967296:Nat)=2 ^ 32 from rfl,show 2 ^ 32=2 ^ w * 2 ^ (32 - w)from by rw[← Nat.pow_add];congr 1;omega]
  exact Nat.mod_mul_right_mod _ _ _
 ·rw[← Int.natCast_mul];exact IntWalk.u32_in _ ⟨by omega,by omega⟩
 ·rw[u32_xor_nat _ _ (by omega) (by omega),lR,hx]
end
section
set_option maxRecDepth 100000
open Go.RowKit
theorem pU(n wd:Nat)(w:World)(hn:n < 4294967296)(hw:wd≤32):
  Calls Tryz.prog 153 #[.int .u32 n,.int .i64 wd] w fun e w'=>e= .returned (.int .u32 (dD n wd:Nat))∧w=w':=by
 go_enter Tryz.func153,Tryz.ntmps153
 go_wp2_with fail
 go_loop [0,5,7] (fun v t i=>∃k:Nat,k≤wd∧i= .int .i64 k∧t= .int .u32 (dD n k:Nat)∧v= .int .u32 (n / 2 ^ k:Nat)) (fun v t i=>wd - (intOf i).toNat)
 case atStart=>exact⟨0,by omega,rfl,rfl,by simp⟩
 case round=>
  obtain⟨k,hk,rfl,rfl,rfl⟩:=hrel
  have ht:=ij n k
  generalize hT:dD n k=t at *
  have HT:=hid hT;clear hT
  by_cases hlt:k < wd
  ·have hst:=Bu n t k ht (by omega) hn HT.out
   have hhf:=Bv n k
   have hq:n / 2 ^ k≤n:=Nat.div_le_self _ _
   generalize n / 2 ^ k=q at *
   generalize hq2:n / 2 ^ (k+1)=q2 at *
   have HQ2:=hid hq2;clear hq2
   have HST:=hid hst;clear hst
   go_wp2_with fail
   go_round
   case rel=>exact⟨k+1,by omega,by go_num,by rw[← HST.out,IntKind.wrap_u32'],by rw[HQ2.out]⟩
   case measure=>simp[intOf];omega
  ·obtain rfl:k=wd:=by omega
   go_wp2_with fail
   go_ret
   exact⟨by rw[HT.out];rfl,rfl⟩
theorem vJ(wd:Nat)(w:World)(hw:wd=8∨wd=16∨wd=32):
  Calls Tryz.prog 154 #[.int .i64 wd] w fun e w'=>e= .returned (.int .u32 (2 ^ wd - 1:Nat))∧w=w':=by
 rcases hw with rfl|rfl|rfl
 all_goals
  go_enter Tryz.func154,Tryz.ntmps154
  go_wp2_with fail
  go_ret
  exact⟨rfl,rfl⟩
def bg(m:gf):Array Value:= #[.int .i64 (m.w:Nat),.int .u32 (m.p:Nat),.bool m.t,.int .u32 (m.i:Nat),.int .u32 (m.o:Nat)]
def jv(m:gf):Value:= .agg (bg m)
theorem Dl(m:gf)(r c:Nat)(w:World)(hm:m.Ok)(hr:r < 2 ^ m.w)(hc:c < 256):
  Calls Tryz.prog 144 #[jv m,.int .u32 r,.int .u8 c] w fun e w'=>e= .returned (.int .u32 (rQ m r c:Nat))∧Below w.heap.size w w':=by
 rcases m with⟨wd,p,t,ini,o⟩
 obtain⟨hw,hp,hodd,hi,ho⟩:=hm
 simp only at hw hp hodd hi ho hr
 have hwl:2 ^ wd≤4294967296:=by rcases hw with e|e|e <;> rw[e] <;> decide
 have hk8:=vH wd p
 have key:∀(t:Bool) (c':Nat),c' < 256→(t=false→c'=c)→(t=true→dD c 8=c')→
   Calls Tryz.prog 144 #[.agg #[.int .i64 wd,.int .u32 p,.bool t,.int .u32 ini,.int .u32 o],.int .u32 r,.int .u8 c] w fun e w'=>e= .returned (.int .u32 (iS wd p (r^^^c' * 2 ^ (wd - 8)) 8:Nat))∧Below w.heap.size w w':=by
  intro t c' hc' hf ht
  have hcs:c' * 2 ^ (wd - 8) < 2 ^ wd:=by
   have e:2 ^ wd=256 * 2 ^ (wd - 8):=by
    rw[show(256:Nat)=2 ^ 8 from rfl,← Nat.pow_add];congr 1;omega
   rw[e];exact Nat.mul_lt_mul_of_pos_right hc' (Nat.pow_pos (by decide))
  have hr0:=EV r c' (wd - 8) (by omega) (by omega)
  have hR:=Nat.xor_lt_two_pow hr hcs
  generalize r^^^c' * 2 ^ (wd - 8)=R at *
  have hwI:(wd:Int) - 8≤24:=by omega
  have hwI2:(0:Int)≤(wd:Int) - 8:=by omega
  cases t
  ·have hcc:=hf rfl
   subst hcc
   clear hf ht
   go_enter Tryz.func144,Tryz.ntmps144
   go_wp2_with fail
   have hrow:=ae.new w 214 #[.int .i64 wd,.int .u32 p,.bool false,.int .u32 ini,.int .u32 o]
   have hb:=(Y4 w.heap.size w).alloc (Z5 _) (.cells #[.int .i64 wd,.int .u32 p,.bool false,.int .u32 ini,.int .u32 o] 214)
   generalize w.alloc (.cells #[.int .i64 wd,.int .u32 p,.bool false,.int .u32 ini,.int .u32 o] 214)=w0 at *
   generalize hB:w.heap.size=B at *
   have HB:=hid hB;clear hB
   go_loopw [1,22] (fun v i wr=>∃k:Nat,k≤8∧i= .int .i64 k∧v= .int .u32 (iS wd p R k:Nat)∧ae wr B 0 214 [.int .i64 wd,.int .u32 p,.bool false,.int .u32 ini,.int .u32 o]∧Below B w wr) (fun v i _=>8 - (intOf i).toNat)
   case atStart=>exact⟨0,by omega,rfl,rfl,hrow,hb⟩
   case round=>
    clear hrow hb
    obtain⟨k,hk,rfl,rfl,hrow,hb⟩:=hrel
    have hkl:=hk8 R k hp hR
    generalize hS:iS wd p R k=S at *
    have HS:=hid hS;clear hS
    by_cases hlt:k < 8
    ·have hc0:=hrow.cell0 0 (by simp)
     have hc1:=hrow.cell0 1 (by simp)
     simp only[Z0,Z1]at hc0 hc1
     have htop:=vI S (wd - 1) (by omega)
     have htl:S / 2 ^ (wd - 1) % 2 < 2:=Nat.mod_lt _ (by decide)
     generalize hT:S / 2 ^ (wd - 1) % 2=T at *
     obtain⟨f1,f2,f3⟩:=rR wd p S T hw hp hkl hT
     have f4:=f1
     rw[IntKind.wrap_u32']at f4
     have HT:=hid hT;clear hT
     have hstep:iS wd p R (k+1)=lR wd p S:=by rw[iS,HS.out]
     generalize S * 2 % 2 ^ wd=S2 at *
     generalize p * T=pT at *
     have hfl:=pR wd p S hp
     generalize lR wd p S=S3 at *
     have HST:=hid hstep;clear hstep
     have hmask:=fun w=>vJ wd w hw
     generalize 2 ^ wd - 1=M at *
     have HMASK:=hid hmask;clear hmask
     have hwI3:(0:Int)≤(wd:Int) - 1:=by omega
     have hwI4:(wd:Int) - 1≤31:=by omega
     go_wp2_with fail
     go_quiet ((go_at_call 154;with_reducible exact Calls.quiet_of_same (sh (HMASK.out _))))
     go_wp2_with fail
     go_roundw
     case rel=>exact⟨k+1,by omega,by go_num,by rw[HST.out],hrow.drewN nq,fc hb nq⟩
     case measure=>simp[intOf];omega
    ·obtain rfl:k=8:=by omega
     go_wp2_with fail
     go_ret
     exact⟨by rw[HS.out];rfl,by rw[HB.out];exact hb⟩
  ·have hcc:=ht rfl
   clear hf ht
   have HCC:=hid hcc;clear hcc
   go_enter Tryz.func144,Tryz.ntmps144
   go_wp2_with fail
   refine(pU c 8 _ (by omega) (by omega)).mono ?_
   rintro e w1 ⟨rfl,rfl⟩
   rw[HCC.out]
   go_wp2_with fail
   have hrow:=ae.new w 214 #[.int .i64 wd,.int .u32 p,.bool true,.int .u32 ini,.int .u32 o]
   have hb:=(Y4 w.heap.size w).alloc (Z5 _) (.cells #[.int .i64 wd,.int .u32 p,.bool true,.int .u32 ini,.int .u32 o] 214)
   generalize w.alloc (.cells #[.int .i64 wd,.int .u32 p,.bool true,.int .u32 ini,.int .u32 o] 214)=w0 at *
   generalize hB:w.heap.size=B at *
   have HB:=hid hB;clear hB
   go_loopw [1,22] (fun v i wr=>∃k:Nat,k≤8∧i= .int .i64 k∧v= .int .u32 (iS wd p R k:Nat)∧ae wr B 0 214 [.int .i64 wd,.int .u32 p,.bool true,.int .u32 ini,.int .u32 o]∧Below B w wr) (fun v i _=>8 - (intOf i).toNat)
   case atStart=>exact⟨0,by omega,rfl,rfl,hrow,hb⟩
   case round=>
    clear hrow hb
    obtain⟨k,hk,rfl,rfl,hrow,hb⟩:=hrel
    have hkl:=hk8 R k hp hR
    generalize hS:iS wd p R k=S at *
    have HS:=hid hS;clear hS
    by_cases hlt:k < 8
    ·have hc0:=hrow.cell0 0 (by simp)
     have hc1:=hrow.cell0 1 (by simp)
     simp only[Z0,Z1]at hc0 hc1
     have htop:=vI S (wd - 1) (by omega)
     have htl:S / 2 ^ (wd - 1) % 2 < 2:=Nat.mod_lt _ (by decide)
     generalize hT:S / 2 ^ (wd - 1) % 2=T at *
     obtain⟨f1,f2,f3⟩:=rR wd p S T hw hp hkl hT
     have f4:=f1
     rw[IntKind.wrap_u32']at f4
     have HT:=hid hT;clear hT
     have hstep:iS wd p R (k+1)=lR wd p S:=by rw[iS,HS.out]
     generalize S * 2 % 2 ^ wd=S2 at *
     generalize p * T=pT at *
     have hfl:=pR wd p S hp
     generalize lR wd p S=S3 at *
     have HST:=hid hstep;clear hstep
     have hmask:=fun w=>vJ wd w hw
     generalize 2 ^ wd - 1=M at *
     have HMASK:=hid hmask;clear hmask
     have hwI3:(0:Int)≤(wd:Int) - 1:=by omega
     have hwI4:(wd:Int) - 1≤31:=by omega
     go_wp2_with fail
     go_quiet ((go_at_call 154;with_reducible exact Calls.quiet_of_same (sh (HMASK.out _))))
     go_wp2_with fail
     go_roundw
     case rel=>exact⟨k+1,by omega,by go_num,by rw[HST.out],hrow.drewN nq,fc hb nq⟩
     case measure=>simp[intOf];omega
    ·obtain rfl:k=8:=by omega
     go_wp2_with fail
     go_ret
     exact⟨by rw[HS.out];rfl,by rw[HB.out];exact hb⟩
 unfold jv bg rQ cOf
 have hcl:dD c 8 < 256:=ij c 8
 cases t
 ·exact key false c hc (fun _=>rfl) (fun h=>by cases h)
 ·exact key true (dD c 8) hcl (fun h=>by cases h) (fun _=>rfl)
end
section
set_option maxRecDepth 100000
open Go.RowKit
theorem Dm(p:Nat)(h:p < 4294967296)(ho:p % 2=1):bits .and .u32 (p:Int) 1=1:=by
 rw[mR p h,ho];rfl
theorem Bw(m:gf)(w:World)(hm:m.Ok):
  Calls Tryz.prog 143 #[jv m] w fun e w'=>e= .returned (.bool true)∧Below w.heap.size w w':=by
 rcases m with⟨wd,p,t,ini,o⟩
 obtain⟨hw,hp,hodd,hi,ho⟩:=hm
 simp only at hw hp hodd hi ho
 unfold jv bg
 rcases hw with rfl|rfl|rfl
 all_goals
  simp only[Nat.reducePow]at hp hi ho
  have hod:=Dm p (by omega) hodd
  go_enter Tryz.func143,Tryz.ntmps143
  go_wp2_with fail
  go_ret
  first|exact⟨rfl,(Y4 _ _).alloc (Z5 _) _⟩|exact⟨iV (Z9 (by omega)),(Y4 _ _).alloc (Z5 _) _⟩
theorem EW(m:gf)(r:Nat)(w:World)(hm:m.Ok)(hr:r < 2 ^ m.w):
  Calls Tryz.prog 145 #[jv m,.int .u32 r] w fun e w'=>e= .returned (.int .u32 (Dj m r:Nat))∧Below w.heap.size w w':=by
 have hl:=FZ m hm
 rcases m with⟨wd,p,t,ini,o⟩
 obtain⟨hw,hp,hodd,hi,ho⟩:=hm
 simp only at hw hp hodd hi ho hr hl
 unfold jv bg Dj
 simp only
 cases t
 ·have hx:=u32_xor_nat r o (by omega) (by omega)
  simp only[Bool.false_eq_true,if_false]
  generalize r^^^o=R at *
  go_enter Tryz.func145,Tryz.ntmps145
  go_wp2_with fail
  go_ret
  exact⟨rfl,(Y4 _ _).alloc (Z5 _) _⟩
 ·have ht:=ij r wd
  have hx:=u32_xor_nat (dD r wd) o (by omega) (by omega)
  have htu:=fun w=>pU r wd w (by omega) (by omega)
  simp only[if_true]
  generalize dD r wd^^^o=R at *
  generalize dD r wd=T at *
  have HTU:=hid htu;clear htu
  go_enter Tryz.func145,Tryz.ntmps145
  go_wp2_with fail
  refine(HTU.out _).mono ?_
  rintro e w1 ⟨rfl,rfl⟩
  go_wp2_with fail
  go_ret
  exact⟨rfl,(Y4 _ _).alloc (Z5 _) _⟩
theorem F0(m:gf)(s:ByteArray)(w:World)(hm:m.Ok)(hs:s.size≤140737488351232):
  Calls Tryz.prog 126 #[jv m,.string s] w fun e w'=>e= .returned (.tuple #[.int .u32 (ofN m s.data.toList:Nat),.nilIface])∧Below w.heap.size w w':=by
 have hlen:s.data.toList.length=s.size:=gp s
 generalize hl:s.data.toList=l at *
 have HL:=hid hl;clear hl
 unfold jv bg
 go_enter Tryz.func126,Tryz.ntmps126
 go_wp2_with fail
 refine(Bw m _ hm).mono ?_
 rintro e w1 ⟨rfl,hb1⟩
 have hrow:=(ae.new w 214 (bg m)).below hb1 (by simp[bg])
 have hb:=((Y4 w.heap.size w).alloc (Z5 _) (.cells (bg m) 214)).trans (hb1.mono (by simp[bg]))
 clear hb1
 have hc3:=hrow.cell0 3 (by simp[bg])
 simp only[bg,Z0,Z1]at hc3
 generalize hB:w.heap.size=B at *
 have HB:=hid hB;clear hB
 go_wp2_with fail
 go_loopw [6,16] (fun v i wr=>∃k:Nat,k≤s.size∧i= .int .i64 k∧v= .int .u32 (kq m m.i (l.take k):Nat)∧ae wr B 0 214 (bg m).toList∧Below B w wr) (fun v i _=>s.size - (intOf i).toNat)
 case atStart=>exact⟨0,by omega,rfl,rfl,hrow,hb⟩
 case round=>
  clear hrow hb hc3
  obtain⟨k,hk,rfl,rfl,hrow,hb⟩:=hrel
  have hfl:=pS m hm (l.take k) m.i hm.i
  have hwl:=FZ m hm
  have hlB:=hrow.lt
  generalize hR:kq m m.i (l.take k)=R at *
  have HR:=hid hR;clear hR
  by_cases hlt:k < s.size
  ·have hc0:=hrow.cell0 0 (by simp[bg])
   have hc1:=hrow.cell0 1 (by simp[bg])
   have hc2:=hrow.cell0 2 (by simp[bg])
   have hc3:=hrow.cell0 3 (by simp[bg])
   have hc4:=hrow.cell0 4 (by simp[bg])
   simp only[bg,Z0,Z1]at hc0 hc1 hc2 hc3 hc4
   have hsn:=yo m m.i l k (by omega)
   rw[HR.out]at hsn
   have hb8:(l.getD k 0).toNat < 256:=UInt8.toNat_lt _
   have hbe:s[k].toNat=(l.getD k 0).toNat:=by rw[Fb s k hlt,HL.out]
   generalize(l.getD k 0).toNat=c at *
   have HBE:=hid hbe;clear hbe
   have HSN:=hid hsn;clear hsn
   go_wp2_with fail
   go_still_tail 5,(by kernel_rfl)
   change wpList _ _ _ _ _ wr.drew
   go_wp2_with fail
   rw[HBE.out]
   refine(Dl m R c _ hm hfl hb8).mono ?_
   rintro e w2 ⟨rfl,hb2⟩
   go_wp2_with fail
   go_roundw
   case rel=>exact⟨k+1,by omega,by go_num,by rw[HSN.out],hrow.drew.below hb2 hlB,hb.drew.trans (hb2.mono (Nat.le_of_lt hlB))⟩
   case measure=>simp[intOf];omega
  ·obtain rfl:k=s.size:=by omega
   have hc0:=hrow.cell0 0 (by simp[bg])
   have hc1:=hrow.cell0 1 (by simp[bg])
   have hc2:=hrow.cell0 2 (by simp[bg])
   have hc3:=hrow.cell0 3 (by simp[bg])
   have hc4:=hrow.cell0 4 (by simp[bg])
   simp only[bg,Z0,Z1]at hc0 hc1 hc2 hc3 hc4
   go_wp2_with fail
   refine(EW m R _ hm hfl).mono ?_
   rintro e w2 ⟨rfl,hb2⟩
   go_wp2_with fail
   go_ret2
   refine⟨?_,by rw[HB.out];exact hb.trans (hb2.mono (Nat.le_of_lt hlB))⟩
   have hR2:R=kq m m.i l:=by rw[← HR.out,← hlen,List.take_length]
   rw[ofN,← hR2]
   rfl
end
section
set_option maxRecDepth 100000
open Go.RowKit
def yp:gf:=⟨32,79764919,true,4294967295,4294967295⟩
theorem lS:yp.Ok:=⟨.inr (.inr rfl),by decide,by decide,by decide,by decide⟩
theorem EX(s:ByteArray)(w:World)(hs:s.size≤140737488351232):
  Calls Tryz.prog 101 #[.string s] w fun e w'=>e= .returned (.int .u32 (ofN yp s.data.toList:Nat))∧Below w.heap.size w w':=by
 go_enter Tryz.func101,Tryz.ntmps101
 go_wp2_with fail
 refine(F0 yp s _ lS hs).mono ?_
 rintro e w1 ⟨rfl,hb⟩
 go_wp2_with fail
 go_ret
 exact⟨rfl,hb⟩
end
section
open Go Go.RowKit
open Rd
open Ly
namespace Fx
open Tm Ly
theorem mS:∀(i:Nat) (v:Int) (l:Nds),(dF i v l).tot=l.tot
 |_,_,.nil=>by cases ‹Nat› <;> rfl
 |0,v,.cons ..=>rfl
 |n+1,v,.cons a b c d e f g r=>by simp only[dF,Nds.tot,mS n v r]
theorem tk:∀(i:Nat) (v:Int) (l:Nds),Ex.InR v→l.ok→(dF i v l).ok
 |_,_,.nil,_,h=>by cases ‹Nat› <;> exact h
 |0,v,.cons ..,hv,h=>⟨hv,h.2⟩
 |n+1,v,.cons a b c d e f g r,hv,h=>⟨h.1,h.2.1,tk n v r hv h.2.2⟩
theorem mT:∀(L M:List (Option Wd)) (u:Wd),dr (L++M)=some u→∃u1 u2,dr L=some u1∧dr M=some u2∧u=u1++u2
 |[],M,u,h=>⟨[],u,rfl,h,rfl⟩
 |x::L,M,u,h=>by
  have h2:x.bind (fun t=>(dr (L++M)).map (t++ ·))=some u:=h
  cases x with
  |none=>cases h2
  |some t=>
   simp only[Option.bind_some]at h2
   cases h3:dr (L++M)with
   |none=>rw[h3]at h2;cases h2
   |some v=>
    rw[h3]at h2
    simp only[Option.map_some,Option.some.injEq]at h2
    obtain⟨u1,u2,e1,e2,rfl⟩:=mT L M v h3
    refine⟨t++u1,u2,?_,e2,by rw[← h2,List.append_assoc]⟩
    show(some t).bind (fun t=>(dr L).map (t++ ·))=_
    rw[e1];rfl
theorem Bx{L:List (Option Wd)}{u:Wd}(h:dr L=some u)(a c:Nat):∃v,dr ((L.drop a).take c)=some v∧v.length≤u.length:=by
 rw[← List.take_append_drop a L]at h
 obtain⟨u1,u2,e1,e2,rfl⟩:=mT _ _ _ h
 rw[← List.take_append_drop c (L.drop a)]at e2
 obtain⟨v1,v2,f1,f2,rfl⟩:=mT _ _ _ e2
 exact⟨v1,f1,by simp;omega⟩
theorem nG{W:Wri}(hWl:eV W){l:Its}{ks:Nds}(h:(aG W l ks).isSome=true)(a b:Nat):∃u,jo W l ks a b=some u∧u.length≤ks.tot:=by
 obtain⟨t,ht⟩:=Option.isSome_iff_exists.1 h
 have hle:=jP hWl l ks t ht
 rw[fR]at ht
 split at ht
 ·obtain⟨v,h1,h2⟩:=Bx ht a (b+1 - a)
  exact⟨v,h1,by omega⟩
 ·cases ht
theorem jW{n:Nat}(h:n≤4294967296):Ex.InR (n:Int):=⟨by omega,by omega⟩
theorem pV{C:Wd→Nat}(hC:∀u,C u < 4294967296){W:Wri}(hWl:eV W){l:Its}{ks:Nds}(h:(aG W l ks).isSome=true)(ht:ks.tot≤800000)(hd:Hd):Ex.InR (av C W l ks hd):=by
 unfold av
 cases hd.ay with
 |none=>exact(show Ex.InR 0 from⟨by decide,by decide⟩)
 |size f=>
  obtain⟨u,h1,h2⟩:=nG hWl h (aV l.row f).toNat (aV l.row f).toNat
  simp only[h1,Option.getD_some]
  exact jW (by omega)
 |count f=>
  simp only[]
  cases hn:nth (aV l.row f).toNat ks with
  |none=>exact⟨by decide,by decide⟩
  |some d=>
   have h2:d.kids.len * 8≤ks.tot:=by
    clear h
    generalize(aV l.row f).toNat=k at hn
    induction k generalizing ks with
    |zero=>
     cases ks with
     |nil=>cases hn
     |cons a b c d' e f g r=>
      cases hn
      have:=iL g
      simp only[Nds.tot];omega
    |succ k ih=>
     cases ks with
     |nil=>cases hn
     |cons a b c d' e f g r=>
      simp only[Nds.tot]at ht⊢
      have:=ih (ks:=r) (by omega) hn
      omega
   simp only[Option.map_some,Option.getD_some]
   exact jW (by omega)
 |check f g=>
  simp only[]
  split
  ·exact⟨by decide,by decide⟩
  ·exact jW (Nat.le_of_lt (hC _))
def OkF(W:Wri)(B:Fxr):Prop:=∀nm ks p,B nm ks=some p→(W nm ks).isSome=true→ks.ok→ks.tot≤800000→p.ok∧p.tot=ks.tot
theorem tq{C:Wd→Nat}(hC:∀u,C u < 4294967296){W:Wri}(hWl:eV W){l:Its}(hf:bC l):∀(O:List Nat) (ks p:Nds),(∀i∈O,i∈ord l.row)→ey C W l O ks=some p→(aG W l ks).isSome=true→ks.ok→ks.tot≤800000→p.ok∧p.tot=ks.tot
 |[],ks,p,_,h,_,ho,_=>by cases h;exact⟨ho,rfl⟩
 |i::O,ks,p,hO,h,hw,ho,ht=>by
  unfold ey at h
  obtain⟨q,h1,h2⟩:=Option.bind_eq_some_iff.1 h
  have hwq:=lM hf (hO i (by simp)) h1 hw
  have hq:q.ok∧q.tot=ks.tot:=by
   unfold fZ at h1
   split at h1
   ·cases h1;exact⟨ho,rfl⟩
   ·split at h1
    ·cases h1
     exact⟨tk _ _ _ (pV hC hWl hw ht _) ho,mS _ _ _⟩
    ·cases h1
  have:=tq hC hWl hf O q p (fun i hi=>hO i (by simp[hi])) h2 hwq hq.1 (by omega)
  exact⟨this.1,by omega⟩
theorem vK{f:Nds→Option Nds}{P:Nds→Prop}(hf:∀ks p,f ks=some p→P ks→ks.ok→ks.tot≤800000→p.ok∧p.tot=ks.tot):∀(ks p:Nds),du f ks=some p→Bc P ks→ks.ok→ks.tot≤800000→p.ok∧p.tot=ks.tot
 | .nil,p,h,_,ho,_=>by cases h;exact⟨ho,rfl⟩
 | .cons a b c d e t g r,p,h,hP,ho,ht=>by
  unfold du at h
  obtain⟨g',h1,h2⟩:=Option.bind_eq_some_iff.1 h
  obtain⟨q,h3,rfl⟩:=Option.map_eq_some_iff.1 h2
  simp only[Nds.tot]at ht
  have e1:=hf _ _ h1 hP.1 ho.2.1 (by omega)
  have e2:=vK hf r q h3 hP.2 ho.2.2 (by omega)
  refine⟨⟨ho.1,e1.1,e2.1⟩,?_⟩
  simp only[Nds.tot];omega
theorem F1{W:Wri}{B:Fxr}(hO:OkF W B){h:Hd}{d:Nd}{p:Nds}(hh:hdF B h d.kids=some p)(hw:(bc W h d).isSome=true)(ho:d.kids.ok)(ht:d.kids.tot≤800000):p.ok∧p.tot=d.kids.tot:=by
 unfold hdF at hh
 cases hk:h.k with
 |scalar w=>rw[hk]at hh;cases hh;exact⟨ho,rfl⟩
 |bytes=>rw[hk]at hh;cases hh;exact⟨ho,rfl⟩
 |struct t=>
  rw[hk]at hh
  simp only[]at hh
  unfold bc at hw
  by_cases hm:cN h=true
  ·rw[if_pos hm]at hh hw
   split at hw
   ·cases hw
   ·exact vK (P:=fun X=>(W t X).isSome=true) (fun ks p h1 h2 h3 h4=>hO t ks p h1 h2 h3 h4) _ _ hh (js (fun d h=>bG hk h) _ hw) ho ht
  ·rw[if_neg hm]at hh hw
   exact hO t _ _ hh (bG hk hw) ho ht
theorem ik{C:Wd→Nat}(hC:∀u,C u < 4294967296){W:Wri}(hWl:eV W){B:Fxr}(hK:km W B)(hO:OkF W B):∀(l:Its),bC l→∀(ks p:Nds),aM C W B l ks=some p→(aG W l ks).isSome=true→ks.ok→ks.tot≤800000→p.ok∧p.tot=ks.tot
 | .nil,_,ks,p,h,_,ho,_=>by unfold aM at h;cases h;exact⟨ho,rfl⟩
 | .cons h l,_,.nil,p,hh,_,ho,_=>by unfold aM at hh;cases hh;exact⟨ho,rfl⟩
 | .when ..,_,.nil,p,h,_,ho,_=>by unfold aM at h;cases h;exact⟨ho,rfl⟩
 | .cons h l,hf,.cons a b c d e f g r,p,hh,hw,ho,ht=>by
  unfold aM at hh
  obtain⟨g',h1,h2⟩:=Option.bind_eq_some_iff.1 hh
  obtain⟨q,h3,rfl⟩:=Option.map_eq_some_iff.1 h2
  simp only[Nds.tot]at ht
  have hw2:=dC hw
  have e1:=F1 hO (d:=⟨a,b,c,d,e,f,g⟩) h1 hw2.1 ho.2.1 (by simp only[];omega)
  have e2:=ik hC hWl hK hO l hf.2 r q h3 hw2.2 ho.2.2 (by omega)
  simp only[]at e1
  refine⟨⟨ho.1,e1.1,e2.1⟩,?_⟩
  simp only[Nds.tot];omega
 | .when p0 q0 body l,hf,.cons a b c d e f g r,p,hh,hw,ho,ht=>by
  unfold aM at hh
  obtain⟨g',h1,h2⟩:=Option.bind_eq_some_iff.1 hh
  obtain⟨q,h3,rfl⟩:=Option.map_eq_some_iff.1 h2
  simp only[Nds.tot]at ht
  have hw2:=ca hw
  have e1:g'.ok∧g'.tot=g.tot:=by
   by_cases he:e=0
   ·rw[if_pos he]at h1;cases h1;exact⟨ho.2.1,rfl⟩
   ·rw[if_neg he]at h1
    obtain⟨z,z1,z2⟩:=Option.bind_eq_some_iff.1 h1
    have w1:=hw2.1 he
    have f1:=ik hC hWl hK hO body hf.2.1 g z z1 w1 ho.2.1 (by omega)
    have f2:=tq hC hWl hf.2.1 _ z g' (fun i hi=>hi) z2 (cX hK body hf.2.1 g z z1 w1) f1.1 (by omega)
    exact⟨f2.1,by omega⟩
  have e2:=ik hC hWl hK hO l hf.2.2 r q h3 hw2.2.2 ho.2.2 (by omega)
  refine⟨⟨ho.1,e1.1,e2.1⟩,?_⟩
  simp only[Nds.tot];omega
theorem EY{C:Wd→Nat}(hC:∀u,C u < 4294967296){W:Wri}(hWl:eV W){B:Fxr}(hK:km W B)(hO:OkF W B){l:Its}(hf:bC l){ks p:Nds}(h:eW C W B l ks=some p)(hw:(aG W l ks).isSome=true)(ho:ks.ok)(ht:ks.tot≤800000):p.ok∧p.tot=ks.tot:=by
 unfold eW at h
 obtain⟨z,z1,z2⟩:=Option.bind_eq_some_iff.1 h
 have f1:=ik hC hWl hK hO l hf ks z z1 hw ho ht
 have f2:=tq hC hWl hf _ z p (fun i hi=>hi) z2 (cX hK l hf ks z z1 hw) f1.1 (by omega)
 exact⟨f2.1,by omega⟩
theorem lT{C:Wd→Nat}(hC:∀u,C u < 4294967296):∀(L:List Ty),(∀t∈L,bh t)→OkF (wrS L) (cY C L)
 |[],_,nm,ks,p,h,hw,_,_=>by cases hw
 |t::r,hF,nm,ks,p,h,hw,ho,ht=>by
  unfold cY at h
  unfold wrS at hw
  have hr:∀t∈r,bh t:=fun t ht=>hF t (by simp[ht])
  by_cases hn:t.name=nm
  ·rw[if_pos hn]at h hw
   exact EY hC (mG r) (fC r hr) (lT hC r hr) (hF t (by simp)).2 h hw ho ht
  ·rw[if_neg hn]at h hw
   exact lT hC r hr nm ks p h hw ho ht
theorem vL:∀(i:Nat) (ks:Nds) (d:Nd) (r:Nds),ks.drop i=d.put r→nth i ks=some d
 |0,.nil,d,r,h=>by cases h
 |0,.cons a b c e f g k r',d,r,h=>by
  have h2:Nds.cons a b c e f g k r'=Nds.cons d.name d.kind d.at_ d.size d.val d.text d.kids r:=h
  injection h2 with e1 e2 e3 e4 e5 e6 e7 e8
  subst e1 e2 e3 e4 e5 e6 e7
  rfl
 |i+1,.nil,d,r,h=>by cases h
 |i+1,.cons a b c e f g k r',d,r,h=>vL i r' d r h
theorem mV:∀(l:Its) (i:Nat) (h:Hd),eH l i=some h→∃r,l.drop i= .cons h r
 | .nil,i,h,hh=>by cases i <;> cases hh
 | .cons h0 l,0,h,hh=>by cases hh;exact⟨l,rfl⟩
 | .when _ _ _ l,0,h,hh=>by cases hh
 | .cons h0 l,i+1,h,hh=>mV l i h hh
 | .when _ _ _ l,i+1,h,hh=>mV l i h hh
theorem zr:∀(k:Nat) (ks:Nds) (d:Nd),nth k ks=some d→d.kids.len * 8≤ks.tot
 |k,.nil,d,h=>by cases k <;> cases h
 |0,.cons a b c e f g x r,d,h=>by
  cases h
  have:=iL x
  simp only[Nds.tot];omega
 |k+1,.cons a b c e f g x r,d,h=>by
  have:=zr k r d h
  simp only[Nds.tot];omega
def bP(u:Wd):Nat:=ofN yp u
theorem iM(u:Wd):bP u < 4294967296:=Nat.lt_of_lt_of_le (EU yp lS _ (pS yp lS _ _ lS.i)) (FZ yp lS)
end Fx
end
end Go.Proofs.YtlomecfhobehnaaGreatDoor
