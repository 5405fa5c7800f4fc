import Derived.Test.YtlomecfhobehnaaGreatDoorMgFixSets29
set_option linter.unusedVariables false
set_option linter.unusedSimpArgs false
set_option maxRecDepth 100000
set_option maxHeartbeats 1000000
namespace Go.Proofs.YtlomecfhobehnaaGreatDoor
open Lib (hid)
section
open Go Go.RowKit
open Rd
open Ly
structure RsS(w wr:World)(rb:Nat)(A:List Tm.Ty)(root s:Tm.Wd)(cr:Nat):Prop where
 bel:Below w.heap.size w wr
 r0:ad wr w.heap.size 0 9 [.string (aa root)]
 r1:ad wr (w.heap.size+1) 0 9 [.string (aa s)]
 r2:ad wr (w.heap.size+1+1) 0 28 cJ
 rd:∃fb b,w.heap.size≤b∧bR w wr rb fb A∧LR wr b (.map (some fb)) s ⟨0,0⟩∧ad wr cr 0 57 [.pointer (some ⟨b,0,none⟩)]
theorem bR.look_ok{U w:World}{rb fb:Nat}{A:List Tm.Ty}(h:bR U w rb fb A){nm:Tm.Wd}(hl:nm.length≤200000000000000):∃v,∀W:World,W.heap[fb]? =w.heap[fb]? →(Instr.lookup 59 (.map (some fb)) (.string (aa nm)) true).run Tryz.prog W= .ok (.tuple #[v,.bool (decide (nm∈names A))]) W:=by
 obtain⟨n,G,h1,h2,h3⟩:=h;refine⟨(G (.string nm)).getD (.slice none 0 0),fun W hW=> ?_⟩;have:=(h1.al hW).look_ok (Maps.string_keyed Tryz.underlying9) Tryz.underlying59 (rP W) (tg Tryz.underlying9 nm hl) (lL _);rw[this];have hd:(G (.string nm)).isSome=decide (nm∈names A):=by
  by_cases hm:nm∈names A
  ·obtain⟨t,ht,rfl⟩:=List.mem_map.1 hm;obtain⟨ga,cap,bs,h4,_⟩:=h2 t ht;rw[h4,Z9 hm];rfl
  ·rw[h3 nm (fun t ht e=>hm (by rw[← e];exact List.mem_map_of_mem ht)),Y9 hm];rfl
 rw[hd]
theorem mY{w0 w:World}(h:Below w0.heap.size w0 w){b:Nat}(hb:w0.heap.size≤b)(v0 v1 v2 v3 v4 v5 v6:Value):Below w0.heap.size w0 (st7 w b v0 v1 v2 v3 v4 v5 v6):=
 ((((((h.setCell (p:=⟨b,0,none⟩) hb v0).setCell (p:=⟨b,1,none⟩) hb v1).setCell (p:=⟨b,2,none⟩) hb v2).setCell (p:=⟨b,3,none⟩) hb v3).setCell (p:=⟨b,4,none⟩) hb v4).setCell (p:=⟨b,5,none⟩) hb v5).setCell (p:=⟨b,6,none⟩) hb v6
section
variable{w W3 W w4:World}{rb:Nat}{A:List Tm.Ty}{root s:Tm.Wd}
theorem RsS.mk0{wr:World}{fb b cr:Nat}(h3:Below w.heap.size w W3∧ad W3 w.heap.size 0 9 [.string (aa root)]∧ad W3 (w.heap.size+1) 0 9 [.string (aa s)]∧ad W3 (w.heap.size+1+1) 0 28 cJ)(h:Below W3.heap.size W3 wr)(hb:w.heap.size≤b)(hf:bR w wr rb fb A)
  (hrow:ad wr b 0 62 [.map (some fb),.string (aa s),.int .i64 0,.int .i64 0])(hp:ad wr cr 0 57 [.pointer (some ⟨b,0,none⟩)]):RsS w wr rb A root s cr:=
 ⟨h3.1.trans (h.mono h3.1.size),h3.2.1.below h h3.2.1.lt,h3.2.2.1.below h h3.2.2.1.lt,h3.2.2.2.below h h3.2.2.2.lt,fb,b,hb,hf,⟨hrow,Nat.zero_le _,Nat.zero_le _⟩,hp⟩
theorem RsS.mkA(h3:Below w.heap.size w W3∧ad W3 w.heap.size 0 9 [.string (aa root)]∧ad W3 (w.heap.size+1) 0 9 [.string (aa s)]∧ad W3 (w.heap.size+1+1) 0 28 cJ)(hb:Below W3.drew.heap.size W3.drew w4)(hf:bR w w4 rb W3.drew.heap.size A):
  RsS w ((w4.alloc (.cells #[.map (some W3.heap.size),.string (aa s),.int .i64 0,.int .i64 0] 62)).alloc (.cells #[.pointer (some ⟨w4.heap.size,0,none⟩)] 57)) rb A root s (w4.heap.size+1):=by
 have hz:W3.heap.size≤w4.heap.size:=hb.size;have h1:Below W3.heap.size W3 w4:=Below.trans (Y4 W3.heap.size W3).drew hb;have h2:=(h1.alloc hz (.cells #[.map (some W3.heap.size),.string (aa s),.int .i64 0,.int .i64 0] 62)).alloc (by simp;omega) (.cells #[.pointer (some ⟨w4.heap.size,0,none⟩)] 57);have h4:=h3.1.size;refine RsS.mk0 h3 h2 (b:=w4.heap.size) (fb:=W3.heap.size) (by omega) ?_ ((ad.new w4 _ _).alloc _) (ad.ix _ _ (by simp) _ _);exact(bR.al (w':=w4.alloc _) hf (Below.heap_alloc _ _ _ hf.lt)).al (Below.heap_alloc _ _ _ (by have:=hf.lt;simp;exact Nat.lt_succ_of_lt this))
theorem RsS.mkB(h3:Below w.heap.size w W3∧ad W3 w.heap.size 0 9 [.string (aa root)]∧ad W3 (w.heap.size+1) 0 9 [.string (aa s)]∧ad W3 (w.heap.size+1+1) 0 28 cJ)(hb:Below W3.drew.heap.size W3.drew w4)(hf:bR w w4 rb W3.drew.heap.size A):
  RsS w ((w4.alloc (.cells #[.pointer (some ⟨w4.heap.size+1,0,none⟩)] 57)).alloc (.cells #[.map (some W3.heap.size),.string (aa s),.int .i64 0,.int .i64 0] 62)) rb A root s w4.heap.size:=by
 have hz:W3.heap.size≤w4.heap.size:=hb.size;have h1:Below W3.heap.size W3 w4:=Below.trans (Y4 W3.heap.size W3).drew hb;have h2:=(h1.alloc hz (.cells #[.pointer (some ⟨w4.heap.size+1,0,none⟩)] 57)).alloc (by simp;omega) (.cells #[.map (some W3.heap.size),.string (aa s),.int .i64 0,.int .i64 0] 62);have h4:=h3.1.size;refine RsS.mk0 h3 h2 (b:=w4.heap.size+1) (fb:=W3.heap.size) (by omega) ?_ (ad.ix _ _ (by simp) _ _) ((ad.new w4 _ _).alloc _);exact(bR.al (w':=w4.alloc _) hf (Below.heap_alloc _ _ _ hf.lt)).al (Below.heap_alloc _ _ _ (by have:=hf.lt;simp;exact Nat.lt_succ_of_lt this))
theorem RsS.mkC(h3:Below w.heap.size w W3∧ad W3 w.heap.size 0 9 [.string (aa root)]∧ad W3 (w.heap.size+1) 0 9 [.string (aa s)]∧ad W3 (w.heap.size+1+1) 0 28 cJ)(h9:ad w4 W3.heap.size 0 57 [.pointer none])
  (hb:Below (W3.drew.alloc (.cells #[.pointer none] 57)).heap.size (W3.drew.alloc (.cells #[.pointer none] 57)) w4)(hf:bR w w4 rb (W3.drew.alloc (.cells #[.pointer none] 57)).heap.size A):
  RsS w ((w4.alloc (.cells #[.map (some (W3.heap.size+1)),.string (aa s),.int .i64 0,.int .i64 0] 62)).setCell ⟨W3.heap.size,0,none⟩ (.pointer (some ⟨w4.heap.size,0,none⟩))) rb A root s W3.heap.size:=by
 have hz:W3.heap.size+1≤w4.heap.size:=by have:=hb.size;simpa using this
 have h1:Below W3.heap.size W3 w4:=Below.trans ((Y4 W3.heap.size W3).drew.alloc (Z5 _) _) (hb.mono (by simp));have h2:=(h1.alloc (by omega) (.cells #[.map (some (W3.heap.size+1)),.string (aa s),.int .i64 0,.int .i64 0] 62)).setCell (p:=⟨W3.heap.size,0,none⟩) (Z5 _) (.pointer (some ⟨w4.heap.size,0,none⟩));have h4:=h3.1.size;have hff:bR w w4 rb (W3.heap.size+1) A:=by simpa using hf
 have hne:W3.heap.size+1≠W3.heap.size:=by omega
 refine RsS.mk0 h3 h2 (b:=w4.heap.size) (fb:=W3.heap.size+1) (by omega) ?_ ((ad.new w4 _ _).far (show w4.heap.size≠W3.heap.size by omega) _) ((h9.alloc _).aw 0 (by simp) _);exact(bR.al (w':=w4.alloc _) hff (Below.heap_alloc _ _ _ hff.lt)).al (Below.heap_setCell _ _ _ _ hne)
end
def cQ(w:World)(o:Option Nd)(e:Ending)(w':World):Prop:=Below w.heap.size w w'∧match o with
 |some d=>∃v bl,e= .returned (.tuple #[v,.nilIface])∧NdV w' w.heap.size bl d v∧bl.Nodup
 |none=>∃t v,e= .returned (.tuple #[.agg cJ.toArray,.iface t v])
theorem gF:∀{l:List Tm.Ty},fW l→(l.map (·.name)).Nodup
 |[],_=>by simp
 |t::r,h=>by
  rw[List.map_cons,List.nodup_cons];exact⟨h.1,gF h.2.2⟩
theorem eO(tys:List Tm.Ty)(root s:Tm.Wd)(w:World)(rb cap B:Nat)(a:Option Addr)(vs:List Value)(ho:an w B 97 3 a tys.length cap vs)(he:Tm.cF w rb tys vs)(hF:∀t∈tys,Tm.aZ t∧Tm.Its.sz t.items≤100000)(hn:tys.length≤100)(hch:fW tys.reverse)
  (hr:root.length≤200000000000000)(hs:s.length≤1000000):Calls Tryz.prog 9 #[.slice a tys.length cap,.string (aa root),.string (aa s)] w (cQ w (aB tys root s)):=by
 have hnd:(tys.map (·.name)).Nodup:=by
  have:=gF hch;rw[List.map_reverse]at this;exact(List.pairwise_reverse.1 this).imp (fun h=>Ne.symm h)
 have hfo:=fun W (hW:Below w.heap.size w W)=>kX tys w W hW rb cap B a vs ho he (fun t ht=>(hF t ht).1) hn hnd
 obtain⟨n,hn'⟩:∃n,n=tys.length:=⟨_,rfl⟩;rw[← hn']at hfo⊢;obtain⟨W3,hW3⟩:∃W3,W3=((w.alloc (.cells #[.string (aa root)] 9)).alloc (.cells #[.string (aa s)] 9)).alloc (.cells #[.string {data:= #[]},.int .i64 0,.int .i64 0,.int .i64 0,.int .i64 0,.string {data:= #[]},.slice none 0 0] 28):=⟨_,rfl⟩;have hb3:Below w.heap.size w W3:=by rw[hW3];exact(((Y4 _ _).alloc (Z5 _) _).alloc (by simp) _).alloc (by simp;omega) _
 have h30:ad W3 w.heap.size 0 9 [.string (aa root)]:=by rw[hW3];exact((ad.new w _ _).alloc _).alloc _
 have h31:ad W3 (w.heap.size+1) 0 9 [.string (aa s)]:=by rw[hW3];exact(ad.ix _ _ (by simp) _ _).alloc _
 have h32:ad W3 (w.heap.size+1+1) 0 28 cJ:=by rw[hW3];exact ad.ix _ _ (by simp) _ _
 have HFO:=hid hfo;have H3:=hid (And.intro hb3 (And.intro h30 (And.intro h31 h32)));have HW3:=hid hW3;have hc1:=h31.cell0 0 (by simp);simp only[Z0]at hc1;have HB3:=hid hb3;have HLT:=hid (show w.heap.size+1 < W3.heap.size from h31.lt);clear hfo ho he hn' hW3 hb3 h30 h31 h32 hnd;go_enter Tryz.func9,Tryz.ntmps9
 go_upto_region 1 with fail
 rw[← HW3.out];go_cut [8]from 13 to 17 (fun v8 wr=>∃cr,v8= .pointer (some ⟨cr,0,none⟩)∧Hid (RsS w wr rb tys root s cr))
 case first=>
  refine wp_region_any (by kernel_rfl) ?_
  try(change wpAny _ _ _ _ _ _ _ (World.drew _))
  refine wpAny_take (i:=0) (v:= ?_) rfl (by kernel_rfl) (by kernel_rfl) (by kernel_rfl) (fun _ _ _ h=>h) (Or.inl ⟨by kernel_rfl,?_⟩) ?_
  rotate_left
  ·(intro w;go_simp) <;> with_reducible rfl
  try dsimp only[Act.put]
  try simp only[Act.put,Z4,Z2,Z3]
  refine wpAny_ready (rs:=[1,2,5]) (by kernel_rfl) (by simp) ?_;refine AllReady.cons rfl (fun K2 hK=> ?_) (AllReady.cons rfl (fun K2 hK=> ?_) (AllReady.cons rfl (fun K2 hK=> ?_) AllReady.nil))
  ·go_simp;refine(HFO.out _ (HB3.out.drew)).mono ?_;rintro e w4 ⟨rfl,hb4,hf4⟩;have HB4:=hid hb4;have HF4:=hid hf4;have c1:w4.cell? ⟨w.heap.size+1,0,none⟩=some (.string (aa s)):=(hb4.cell (by have:=HLT.out;simp <;> omega)).trans (by first|exact hc1|exact((World.cell?_of_block (Below.heap_alloc _ _ _ HLT.out)).trans hc1));clear hb4 hf4;go_simp;refine hK _ _ ?_;clear hK K2
   try simp only[Act.put,Z4,Z2,Z3]
   refine wpAny_ready (rs:=[2,5]) (by kernel_rfl) (by simp) ?_;refine AllReady.cons rfl (fun K2 hK=> ?_) (AllReady.cons rfl (fun K2 hK=> ?_) AllReady.nil)
   ·go_simp;refine hK _ _ ?_;clear hK K2
    try simp only[Act.put,Z4,Z2,Z3]
    refine wpAny_take (i:=3) (v:= ?_) rfl (by kernel_rfl) (by kernel_rfl) (by kernel_rfl) (fun _ _ _ h=>h) (Or.inl ⟨by kernel_rfl,?_⟩) ?_
    rotate_left
    ·(intro w;go_simp) <;> with_reducible rfl
    try dsimp only[Act.put]
    try simp only[Act.put,Z4,Z2,Z3]
    refine wpAny_ready (rs:=[4,5]) (by kernel_rfl) (by simp) ?_;refine AllReady.cons rfl (fun K2 hK=> ?_) (AllReady.cons rfl (fun K2 hK=> ?_) AllReady.nil)
    ·go_simp;refine hK _ _ ?_;clear hK K2
     try simp only[Act.put,Z4,Z2,Z3]
     refine wpAny_ready (rs:=[5]) (by kernel_rfl) (by simp) ?_;refine AllReady.cons rfl (fun K2 hK=> ?_) AllReady.nil
     ·go_simp;refine hK _ _ ?_;clear hK K2
      try simp only[Act.put,Z4,Z2,Z3]
      refine wpAny_ready (rs:=[6]) (by kernel_rfl) (by simp) ?_;refine AllReady.cons rfl (fun K2 hK=> ?_) AllReady.nil;go_simp;refine hK _ _ ?_;clear hK K2
      try simp only[Act.put,Z4,Z2,Z3]
      refine wpAny_done (by kernel_rfl) ?_ _;go_wp2_with fail;go_meet
      first
       |exact⟨_,rfl,hid (RsS.mkA H3.out HB4.out HF4.out)⟩
       |exact⟨_,rfl,hid (RsS.mkB H3.out HB4.out HF4.out)⟩
       |exact⟨_,rfl,hid (RsS.mkC H3.out H9.out HB4.out HF4.out)⟩
    ·go_simp;refine hK _ _ ?_;clear hK K2
     try simp only[Act.put,Z4,Z2,Z3]
     refine wpAny_ready (rs:=[4]) (by kernel_rfl) (by simp) ?_;refine AllReady.cons rfl (fun K2 hK=> ?_) AllReady.nil
     ·go_simp;refine hK _ _ ?_;clear hK K2
      try simp only[Act.put,Z4,Z2,Z3]
      refine wpAny_ready (rs:=[6]) (by kernel_rfl) (by simp) ?_;refine AllReady.cons rfl (fun K2 hK=> ?_) AllReady.nil;go_simp;refine hK _ _ ?_;clear hK K2
      try simp only[Act.put,Z4,Z2,Z3]
      refine wpAny_done (by kernel_rfl) ?_ _;go_wp2_with fail;go_meet
      first
       |exact⟨_,rfl,hid (RsS.mkA H3.out HB4.out HF4.out)⟩
       |exact⟨_,rfl,hid (RsS.mkB H3.out HB4.out HF4.out)⟩
       |exact⟨_,rfl,hid (RsS.mkC H3.out H9.out HB4.out HF4.out)⟩
   ·go_simp;have c1b:(w4.alloc (.cells #[.pointer none] 57)).cell? ⟨w.heap.size+1,0,none⟩=some (.string (aa s)):=(World.cell?_of_block (Below.heap_alloc _ _ _ (show w.heap.size+1 < w4.heap.size by have:=HLT.out;have h2:=HB4.out.size;simp at h2;omega))).trans c1;refine hK _ _ ?_;clear hK K2
    try simp only[Act.put,Z4,Z2,Z3]
    refine wpAny_ready (rs:=[2]) (by kernel_rfl) (by simp) ?_;refine AllReady.cons rfl (fun K2 hK=> ?_) AllReady.nil
    ·go_simp;refine hK _ _ ?_;clear hK K2
     try simp only[Act.put,Z4,Z2,Z3]
     refine wpAny_take (i:=3) (v:= ?_) rfl (by kernel_rfl) (by kernel_rfl) (by kernel_rfl) (fun _ _ _ h=>h) (Or.inl ⟨by kernel_rfl,?_⟩) ?_
     rotate_left
     ·(intro w;go_simp) <;> with_reducible rfl
     try dsimp only[Act.put]
     try simp only[Act.put,Z4,Z2,Z3]
     refine wpAny_ready (rs:=[4]) (by kernel_rfl) (by simp) ?_;refine AllReady.cons rfl (fun K2 hK=> ?_) AllReady.nil
     ·go_simp;refine hK _ _ ?_;clear hK K2
      try simp only[Act.put,Z4,Z2,Z3]
      refine wpAny_ready (rs:=[6]) (by kernel_rfl) (by simp) ?_;refine AllReady.cons rfl (fun K2 hK=> ?_) AllReady.nil;go_simp;refine hK _ _ ?_;clear hK K2
      try simp only[Act.put,Z4,Z2,Z3]
      refine wpAny_done (by kernel_rfl) ?_ _;go_wp2_with fail;go_meet
      first
       |exact⟨_,rfl,hid (RsS.mkA H3.out HB4.out HF4.out)⟩
       |exact⟨_,rfl,hid (RsS.mkB H3.out HB4.out HF4.out)⟩
       |exact⟨_,rfl,hid (RsS.mkC H3.out H9.out HB4.out HF4.out)⟩
  ·go_simp;refine hK _ _ ?_;clear hK K2
   try simp only[Act.put,Z4,Z2,Z3]
   refine wpAny_ready (rs:=[1,5]) (by kernel_rfl) (by simp) ?_;refine AllReady.cons rfl (fun K2 hK=> ?_) (AllReady.cons rfl (fun K2 hK=> ?_) AllReady.nil)
   ·go_simp;refine(HFO.out _ (HB3.out.drew)).mono ?_;rintro e w4 ⟨rfl,hb4,hf4⟩;have HB4:=hid hb4;have HF4:=hid hf4;have c1:w4.cell? ⟨w.heap.size+1,0,none⟩=some (.string (aa s)):=(hb4.cell (by have:=HLT.out;simp <;> omega)).trans (by first|exact hc1|exact((World.cell?_of_block (Below.heap_alloc _ _ _ HLT.out)).trans hc1));clear hb4 hf4;go_simp;refine hK _ _ ?_;clear hK K2
    try simp only[Act.put,Z4,Z2,Z3]
    refine wpAny_take (i:=3) (v:= ?_) rfl (by kernel_rfl) (by kernel_rfl) (by kernel_rfl) (fun _ _ _ h=>h) (Or.inl ⟨by kernel_rfl,?_⟩) ?_
    rotate_left
    ·(intro w;go_simp) <;> with_reducible rfl
    try dsimp only[Act.put]
    try simp only[Act.put,Z4,Z2,Z3]
    refine wpAny_ready (rs:=[4,5]) (by kernel_rfl) (by simp) ?_;refine AllReady.cons rfl (fun K2 hK=> ?_) (AllReady.cons rfl (fun K2 hK=> ?_) AllReady.nil)
    ·go_simp;refine hK _ _ ?_;clear hK K2
     try simp only[Act.put,Z4,Z2,Z3]
     refine wpAny_ready (rs:=[5]) (by kernel_rfl) (by simp) ?_;refine AllReady.cons rfl (fun K2 hK=> ?_) AllReady.nil
     ·go_simp;refine hK _ _ ?_;clear hK K2
      try simp only[Act.put,Z4,Z2,Z3]
      refine wpAny_ready (rs:=[6]) (by kernel_rfl) (by simp) ?_;refine AllReady.cons rfl (fun K2 hK=> ?_) AllReady.nil;go_simp;refine hK _ _ ?_;clear hK K2
      try simp only[Act.put,Z4,Z2,Z3]
      refine wpAny_done (by kernel_rfl) ?_ _;go_wp2_with fail;go_meet
      first
       |exact⟨_,rfl,hid (RsS.mkA H3.out HB4.out HF4.out)⟩
       |exact⟨_,rfl,hid (RsS.mkB H3.out HB4.out HF4.out)⟩
       |exact⟨_,rfl,hid (RsS.mkC H3.out H9.out HB4.out HF4.out)⟩
    ·go_simp;refine hK _ _ ?_;clear hK K2
     try simp only[Act.put,Z4,Z2,Z3]
     refine wpAny_ready (rs:=[4]) (by kernel_rfl) (by simp) ?_;refine AllReady.cons rfl (fun K2 hK=> ?_) AllReady.nil
     ·go_simp;refine hK _ _ ?_;clear hK K2
      try simp only[Act.put,Z4,Z2,Z3]
      refine wpAny_ready (rs:=[6]) (by kernel_rfl) (by simp) ?_;refine AllReady.cons rfl (fun K2 hK=> ?_) AllReady.nil;go_simp;refine hK _ _ ?_;clear hK K2
      try simp only[Act.put,Z4,Z2,Z3]
      refine wpAny_done (by kernel_rfl) ?_ _;go_wp2_with fail;go_meet
      first
       |exact⟨_,rfl,hid (RsS.mkA H3.out HB4.out HF4.out)⟩
       |exact⟨_,rfl,hid (RsS.mkB H3.out HB4.out HF4.out)⟩
       |exact⟨_,rfl,hid (RsS.mkC H3.out H9.out HB4.out HF4.out)⟩
   ·go_simp;refine hK _ _ ?_;clear hK K2
    try simp only[Act.put,Z4,Z2,Z3]
    refine wpAny_ready (rs:=[1]) (by kernel_rfl) (by simp) ?_;refine AllReady.cons rfl (fun K2 hK=> ?_) AllReady.nil
    ·go_simp;refine(HFO.out _ ((HB3.out.drew).alloc (by have:=HB3.out.size;exact this) _)).mono ?_;rintro e w4 ⟨rfl,hb4,hf4⟩;have HB4:=hid hb4;have HF4:=hid hf4;have c1:w4.cell? ⟨w.heap.size+1,0,none⟩=some (.string (aa s)):=(hb4.cell (by have:=HLT.out;simp <;> omega)).trans (by first|exact hc1|exact((World.cell?_of_block (Below.heap_alloc _ _ _ HLT.out)).trans hc1));have h9:ad w4 W3.heap.size 0 57 [.pointer none]:=ad.below (w:=W3.drew.alloc (.cells #[.pointer none] 57)) (ad.new W3.drew _ _) hb4 (ad.lt (ad.new W3.drew 57 #[.pointer none]));have c9:=h9.cell0 0 (by simp);have z9:=h9.frozen0 0 (by simp);simp only[Z0]at c9;have H9:=hid h9;clear h9;clear hb4 hf4;go_simp;refine hK _ _ ?_;clear hK K2
     try simp only[Act.put,Z4,Z2,Z3]
     refine wpAny_take (i:=3) (v:= ?_) rfl (by kernel_rfl) (by kernel_rfl) (by kernel_rfl) (fun _ _ _ h=>h) (Or.inl ⟨by kernel_rfl,?_⟩) ?_
     rotate_left
     ·(intro w;go_simp) <;> with_reducible rfl
     try dsimp only[Act.put]
     try simp only[Act.put,Z4,Z2,Z3]
     refine wpAny_ready (rs:=[4]) (by kernel_rfl) (by simp) ?_;refine AllReady.cons rfl (fun K2 hK=> ?_) AllReady.nil
     ·go_simp;have h9b:=H9.out.alloc (.cells #[.map (some (W3.heap.size+1)),.string (aa s),.int .i64 0,.int .i64 0] 62);have c9b:=h9b.cell0 0 (by simp);have z9b:=h9b.frozen0 0 (by simp);simp only[Z0]at c9b;clear h9b;refine hK _ _ ?_;clear hK K2
      try simp only[Act.put,Z4,Z2,Z3]
      refine wpAny_ready (rs:=[6]) (by kernel_rfl) (by simp) ?_;refine AllReady.cons rfl (fun K2 hK=> ?_) AllReady.nil;go_simp;refine hK _ _ ?_;clear hK K2
      try simp only[Act.put,Z4,Z2,Z3]
      refine wpAny_done (by kernel_rfl) ?_ _;go_wp2_with fail;go_meet
      first
       |exact⟨_,rfl,hid (RsS.mkA H3.out HB4.out HF4.out)⟩
       |exact⟨_,rfl,hid (RsS.mkB H3.out HB4.out HF4.out)⟩
       |exact⟨_,rfl,hid (RsS.mkC H3.out H9.out HB4.out HF4.out)⟩
  ·go_simp;have c1b:(W3.alloc (.cells #[.pointer none] 57)).cell? ⟨w.heap.size+1,0,none⟩=some (.string (aa s)):=(World.cell?_of_block (Below.heap_alloc _ _ _ HLT.out)).trans hc1;refine hK _ _ ?_;clear hK K2
   try simp only[Act.put,Z4,Z2,Z3]
   refine wpAny_ready (rs:=[1,2]) (by kernel_rfl) (by simp) ?_;refine AllReady.cons rfl (fun K2 hK=> ?_) (AllReady.cons rfl (fun K2 hK=> ?_) AllReady.nil)
   ·go_simp;refine(HFO.out _ ((HB3.out.drew).alloc (by have:=HB3.out.size;exact this) _)).mono ?_;rintro e w4 ⟨rfl,hb4,hf4⟩;have HB4:=hid hb4;have HF4:=hid hf4;have c1:w4.cell? ⟨w.heap.size+1,0,none⟩=some (.string (aa s)):=(hb4.cell (by have:=HLT.out;simp <;> omega)).trans (by first|exact hc1|exact((World.cell?_of_block (Below.heap_alloc _ _ _ HLT.out)).trans hc1));have h9:ad w4 W3.heap.size 0 57 [.pointer none]:=ad.below (w:=W3.drew.alloc (.cells #[.pointer none] 57)) (ad.new W3.drew _ _) hb4 (ad.lt (ad.new W3.drew 57 #[.pointer none]));have c9:=h9.cell0 0 (by simp);have z9:=h9.frozen0 0 (by simp);simp only[Z0]at c9;have H9:=hid h9;clear h9;clear hb4 hf4;go_simp;refine hK _ _ ?_;clear hK K2
    try simp only[Act.put,Z4,Z2,Z3]
    refine wpAny_ready (rs:=[2]) (by kernel_rfl) (by simp) ?_;refine AllReady.cons rfl (fun K2 hK=> ?_) AllReady.nil
    ·go_simp;refine hK _ _ ?_;clear hK K2
     try simp only[Act.put,Z4,Z2,Z3]
     refine wpAny_take (i:=3) (v:= ?_) rfl (by kernel_rfl) (by kernel_rfl) (by kernel_rfl) (fun _ _ _ h=>h) (Or.inl ⟨by kernel_rfl,?_⟩) ?_
     rotate_left
     ·(intro w;go_simp) <;> with_reducible rfl
     try dsimp only[Act.put]
     try simp only[Act.put,Z4,Z2,Z3]
     refine wpAny_ready (rs:=[4]) (by kernel_rfl) (by simp) ?_;refine AllReady.cons rfl (fun K2 hK=> ?_) AllReady.nil
     ·go_simp;have h9b:=H9.out.alloc (.cells #[.map (some (W3.heap.size+1)),.string (aa s),.int .i64 0,.int .i64 0] 62);have c9b:=h9b.cell0 0 (by simp);have z9b:=h9b.frozen0 0 (by simp);simp only[Z0]at c9b;clear h9b;refine hK _ _ ?_;clear hK K2
      try simp only[Act.put,Z4,Z2,Z3]
      refine wpAny_ready (rs:=[6]) (by kernel_rfl) (by simp) ?_;refine AllReady.cons rfl (fun K2 hK=> ?_) AllReady.nil;go_simp;refine hK _ _ ?_;clear hK K2
      try simp only[Act.put,Z4,Z2,Z3]
      refine wpAny_done (by kernel_rfl) ?_ _;go_wp2_with fail;go_meet
      first
       |exact⟨_,rfl,hid (RsS.mkA H3.out HB4.out HF4.out)⟩
       |exact⟨_,rfl,hid (RsS.mkB H3.out HB4.out HF4.out)⟩
       |exact⟨_,rfl,hid (RsS.mkC H3.out H9.out HB4.out HF4.out)⟩
   ·go_simp;refine hK _ _ ?_;clear hK K2
    try simp only[Act.put,Z4,Z2,Z3]
    refine wpAny_ready (rs:=[1]) (by kernel_rfl) (by simp) ?_;refine AllReady.cons rfl (fun K2 hK=> ?_) AllReady.nil
    ·go_simp;refine(HFO.out _ ((HB3.out.drew).alloc (by have:=HB3.out.size;exact this) _)).mono ?_;rintro e w4 ⟨rfl,hb4,hf4⟩;have HB4:=hid hb4;have HF4:=hid hf4;have c1:w4.cell? ⟨w.heap.size+1,0,none⟩=some (.string (aa s)):=(hb4.cell (by have:=HLT.out;simp <;> omega)).trans (by first|exact hc1|exact((World.cell?_of_block (Below.heap_alloc _ _ _ HLT.out)).trans hc1));have h9:ad w4 W3.heap.size 0 57 [.pointer none]:=ad.below (w:=W3.drew.alloc (.cells #[.pointer none] 57)) (ad.new W3.drew _ _) hb4 (ad.lt (ad.new W3.drew 57 #[.pointer none]));have c9:=h9.cell0 0 (by simp);have z9:=h9.frozen0 0 (by simp);simp only[Z0]at c9;have H9:=hid h9;clear h9;clear hb4 hf4;go_simp;refine hK _ _ ?_;clear hK K2
     try simp only[Act.put,Z4,Z2,Z3]
     refine wpAny_take (i:=3) (v:= ?_) rfl (by kernel_rfl) (by kernel_rfl) (by kernel_rfl) (fun _ _ _ h=>h) (Or.inl ⟨by kernel_rfl,?_⟩) ?_
     rotate_left
     ·(intro w;go_simp) <;> with_reducible rfl
     try dsimp only[Act.put]
     try simp only[Act.put,Z4,Z2,Z3]
     refine wpAny_ready (rs:=[4]) (by kernel_rfl) (by simp) ?_;refine AllReady.cons rfl (fun K2 hK=> ?_) AllReady.nil
     ·go_simp;have h9b:=H9.out.alloc (.cells #[.map (some (W3.heap.size+1)),.string (aa s),.int .i64 0,.int .i64 0] 62);have c9b:=h9b.cell0 0 (by simp);have z9b:=h9b.frozen0 0 (by simp);simp only[Z0]at c9b;clear h9b;refine hK _ _ ?_;clear hK K2
      try simp only[Act.put,Z4,Z2,Z3]
      refine wpAny_ready (rs:=[6]) (by kernel_rfl) (by simp) ?_;refine AllReady.cons rfl (fun K2 hK=> ?_) AllReady.nil;go_simp;refine hK _ _ ?_;clear hK K2
      try simp only[Act.put,Z4,Z2,Z3]
      refine wpAny_done (by kernel_rfl) ?_ _;go_wp2_with fail;go_meet
      first
       |exact⟨_,rfl,hid (RsS.mkA H3.out HB4.out HF4.out)⟩
       |exact⟨_,rfl,hid (RsS.mkB H3.out HB4.out HF4.out)⟩
       |exact⟨_,rfl,hid (RsS.mkC H3.out H9.out HB4.out HF4.out)⟩
 case rest=>
  obtain⟨cr,rfl,HM⟩:=hcut;obtain⟨fb,b,hbw,hfm,hlr,hcr⟩:=HM.out.rd;have HRD:=hid (And.intro hbw (And.intro hfm (And.intro hlr hcr)));have k1:=hcr.cell0 0 (by simp);have k2:=hlr.row.cell0 0 (by simp);have k3:=HM.out.r0.cell0 0 (by simp);simp only[Z0]at k1 k2 k3;obtain⟨lv,hlk⟩:=hfm.look_ok hr;have hlk0:∀j,(Instr.lookup 59 (.map (some fb)) (.string (aa root)) true).run Tryz.prog (wc.drewN j)= .ok (.tuple #[lv,.bool (decide (root∈names tys))]) (wc.drewN j):=fun j=>hlk _ rfl
  clear hbw hfm hlr hcr hlk HFO HW3 H3 HB3 HLT hc1
  by_cases hroot:root∈names tys
  ·have q1:decide (root∈names tys)=true:=Z9 hroot;rw[q1]at hlk0;have HROOT:=hid hroot;clear hroot q1;go_wp2_with fail;go_quiet (fail);clear k1 k2 k3 hlk0;obtain⟨V,hV⟩:∃V,V=wc.drewN nq:=⟨_,rfl⟩;rw[← hV];have hbV:Below wc.heap.size wc V:=by rw[hV];exact ey (Y4 _ _) _
   have HBV:=hid hbV;obtain⟨V1,hV1⟩:∃V1,V1=V.alloc (.cells #[.string {data:= #[]},.int .i64 0,.int .i64 0,.int .i64 0,.int .i64 0,.string {data:= #[]},.slice none 0 0] 28):=⟨_,rfl⟩;have hbV1:Below V.heap.size V V1:=by rw[hV1];exact(Y4 _ _).alloc (Z5 _) _
   have hcn:ad V1 V.heap.size 0 28 cJ:=by rw[hV1];exact ad.new V _ _
   have hb1:Below wc.heap.size wc V1:=hbV.trans (hbV1.mono hbV.size);have hrs:RcS w V1 rb fb b tys root s cr w.heap.size V.heap.size (w.heap.size+1):=⟨HM.out.bel.trans (hb1.mono HM.out.bel.size),HRD.out.1,HRD.out.2.1.al (hb1.block _ HRD.out.2.1.lt),HRD.out.2.2.1.al (hb1.block _ HRD.out.2.2.1.row.lt),HRD.out.2.2.2.below hb1 HRD.out.2.2.2.lt,HM.out.r0.below hb1 HM.out.r0.lt,hcn,HM.out.r1.below hb1 HM.out.r1.lt⟩;have hrs2:=hrs.up ((Y4 V1.heap.size V1).alloc (Z5 _) (.cells #[.nilIface] 30));have hsub:=vD tys s hs hF tys.reverse (fun t ht=>List.mem_reverse.1 ht) hch root (by rw[mX];exact HROOT.out);have hcall:=BS w _ rb fb b tys root s cr w.heap.size V.heap.size (w.heap.size+1) hrs2 hsub hs;have hCL:Calls Tryz.prog 29 #[.pointer (some ⟨cr,0,none⟩),.pointer (some ⟨w.heap.size,0,none⟩),.pointer (some ⟨V.heap.size,0,none⟩),.pointer (some ⟨w.heap.size+1,0,none⟩)] (V1.alloc (.cells #[.nilIface] 30))
     (du V1 (fun w1=>Two (V1.alloc (.cells #[.nilIface] 30)) w1 b V.heap.size∧∃d ga cap bs b1,aB tys root s=some d∧ad w1 V.heap.size 0 28 (ae d.name d.kind d.at_ d.size d.val d.text (.slice ga d.kids.len cap))∧an w1 (V1.heap.size+1) 28 7 ga d.kids.len cap bs∧aW w1 (V1.heap.size+1) d.kids b1 bs∧(aU ga++b1).Nodup)
      (fun w1=>Two (V1.alloc (.cells #[.nilIface] 30)) w1 b V.heap.size∧aB tys root s=none)):=by
    refine hcall.mono ?_;rintro e w1 ⟨h2,h3⟩;have hne1:V1.heap.size≠b:=by have:=hrs.lr.row.lt;omega
    have hne2:V1.heap.size≠V.heap.size:=by have:=hcn.lt;omega
    refine⟨h2.block V1.heap.size (by simp) hne1 hne2,?_⟩;cases ho:aB tys root s with
    |none=>rw[ho]at h3;exact .inr ⟨h3,h2,rfl⟩
    |some d=>
     rw[ho]at h3;obtain⟨he,ga,cap,bs,b1,g1,g2,g3,g4⟩:=h3;have hz:(V1.alloc (.cells #[.nilIface] 30)).heap.size=V1.heap.size+1:=by simp
     rw[hz]at g2 g3;exact .inl ⟨he,h2,d,ga,cap,bs,b1,rfl,g1,g2,g3,g4⟩
   have HCA:=hid (vF (.pointer (some ⟨cr,0,none⟩)) (.pointer (some ⟨w.heap.size,0,none⟩)) (.pointer (some ⟨V.heap.size,0,none⟩)) (.pointer (some ⟨w.heap.size+1,0,none⟩)) V1 _ _ hCL);have HRS:=hid hrs;have HVV:=hid (And.intro hbV hbV1);have HV1:=hid hV1;have hcnl:=hcn.lt;have HCN:=hid hcnl;clear hV hbV hrs hrs2 hsub hcall hCL hV1 hbV1 hb1 hcn hcnl;go_wp2_with fail;rw[← HV1.out];refine HCA.out.mono ?_;unfold fL;rintro e w' (⟨rfl,w1,⟨h2,d,ga,cap,bs,b1,ho,g1,g2,g3,g4⟩,rfl⟩|⟨t,v,rfl,w1,o,⟨h2,ho⟩,rfl⟩)
   ·obtain⟨X,hX⟩:∃X,X=w1.setCell ⟨V1.heap.size,0,none⟩ .nilIface:=⟨_,rfl⟩;rw[← hX];have hfar:∀g:Nat,g≠V1.heap.size→X.heap[g]? =w1.heap[g]? :=fun g hg=>by rw[hX];exact Below.heap_setCell _ _ _ _ hg
    have hVV:=HVV.out.1.size;have hVV1:=HVV.out.2.size;have hcl:=HCN.out;have hwc:=HM.out.bel.size;have hr2l:=HM.out.r2.lt;have hbb:=HRD.out.1;have hrow:ad X V.heap.size 0 28 [.string (aa d.name),.int .i64 (d.kind:Nat),.int .i64 (d.at_:Nat),.int .i64 (d.size:Nat),.int .i64 d.val,.string (aa d.text),.slice ga d.kids.len cap]:=g1.of_heap (hfar _ (by omega));have hz1:X.heap.size=w1.heap.size:=by rw[hX];exact World.size_setCell ..
    have hbX:Below w.heap.size w X:=by
     have e1:Below w.heap.size w V1:=HRS.out.bel;have e2:Below w.heap.size w w1:=Two.below (e1.alloc e1.size _) h2 (by simp;omega) hbb (by omega);rw[hX];exact e2.setCell (p:=⟨V1.heap.size,0,none⟩) (show w.heap.size≤V1.heap.size by omega) _
    have hres:ad X (w.heap.size+1+1) 0 28 cJ:=by
     have e1:ad V1 (w.heap.size+1+1) 0 28 cJ:=(HM.out.r2.below HVV.out.1 HM.out.r2.lt).below HVV.out.2 (by omega);have hnb:w.heap.size+1+1≠b:=by
      rintro rfl;exact absurd (e1.ty HRS.out.lr.row) (by decide)
     exact((e1.alloc _).of_heap (h2.block _ (by simp;omega) hnb (by omega))).of_heap (hfar _ (by omega))
    have r0:=hrow.cell0 0 (by simp);have r1:=hrow.cell0 1 (by simp);have r2:=hrow.cell0 2 (by simp);have r3:=hrow.cell0 3 (by simp);have r4:=hrow.cell0 4 (by simp);have r5:=hrow.cell0 5 (by simp);have r6:=hrow.cell0 6 (by simp);simp only[Z0,Z1]at r0 r1 r2 r3 r4 r5 r6;have y0:=hres.cell0 0 (by simp);have z0:=hres.frozen0 0 (by simp);have y1:=hres.cell0 1 (by simp);have z1:=hres.frozen0 1 (by simp);have y2:=hres.cell0 2 (by simp);have z2:=hres.frozen0 2 (by simp);have y3:=hres.cell0 3 (by simp);have z3:=hres.frozen0 3 (by simp);have y4:=hres.cell0 4 (by simp);have z4:=hres.frozen0 4 (by simp);have y5:=hres.cell0 5 (by simp);have z5:=hres.frozen0 5 (by simp);have y6:=hres.cell0 6 (by simp);have z6:=hres.frozen0 6 (by simp);simp only[Z0,Z1]at y0 y1 y2 y3 y4 y5 y6;have hoX:an X (V1.heap.size+1) 28 7 ga d.kids.len cap bs:=g2.al (w':=X) fun x hx=>hfar x.block (by subst hx;have:=g2.lt;omega)
    have heX:aW X (V1.heap.size+1) d.kids b1 bs:=g3.al (w':=X) _ _ _ (fun k hk=>hfar k (by have:=g3.mem _ _ _ k hk;omega));have HOX:=hid hoX;have HEX:=hid heX;have HND:=hid g4;have HO:=hid ho;have HBX:=hid hbX;have HRES:=hid hres;have HLE:=hid (show w.heap.size+1+1 < V1.heap.size by omega);clear h2 ho g1 g2 g3 g4 hX hfar hVV hVV1 hcl hwc hr2l hbb hrow hz1 hbX hres hoX heX;go_wp2_with fail;clear r0 r1 r2 r3 r4 r5 r6;have p0:=HRES.out.aw 0 (by simp) (.string (aa d.name));have r0:=p0.cell0 0 (by simp);have p1:=p0.aw 1 (by simp) (.int .i64 (d.kind:Nat));have r1:=p1.cell0 1 (by simp);have p2:=p1.aw 2 (by simp) (.int .i64 (d.at_:Nat));have r2:=p2.cell0 2 (by simp);have p3:=p2.aw 3 (by simp) (.int .i64 (d.size:Nat));have r3:=p3.cell0 3 (by simp);have p4:=p3.aw 4 (by simp) (.int .i64 d.val);have r4:=p4.cell0 4 (by simp);have p5:=p4.aw 5 (by simp) (.string (aa d.text));have r5:=p5.cell0 5 (by simp);have p6:=p5.aw 6 (by simp) (.slice ga d.kids.len cap);have r6:=p6.cell0 6 (by simp);simp only[Z2,Z3,Z0,Z1]at r0 r1 r2 r3 r4 r5 r6;clear p0 p1 p2 p3 p4 p5 p6;refine bodyPost_ret (v:= .tuple #[.agg #[.string (aa d.name),.int .i64 (d.kind:Nat),.int .i64 (d.at_:Nat),.int .i64 (d.size:Nat),.int .i64 d.val,.string (aa d.text),.slice ga d.kids.len cap],.nilIface]) (by simp[results,Tryz.results9,go_sem,r0,r1,r2,r3,r4,r5,r6];first|done|rfl) rfl ?_;have hb7:=mY (w0:=w) (w:=X) HBX.out (b:=w.heap.size+1+1) (by omega) (.string (aa d.name)) (.int .i64 (d.kind:Nat)) (.int .i64 (d.at_:Nat)) (.int .i64 (d.size:Nat)) (.int .i64 d.val) (.string (aa d.text)) (.slice ga d.kids.len cap);refine⟨hb7,?_⟩;rw[HO.out];refine⟨_,aU ga++b1,rfl,⟨ga,cap,bs,b1,rfl,rfl,?_,?_⟩,HND.out⟩
    ·exact(HOX.out.al fun x hx=>cY _ _ _ _ _ _ _ _ (by have:=HOX.out;subst hx;have h9:=this.lt;have h8:=HLE.out;omega)).mono (by have:=HLE.out;omega)
    ·exact(HEX.out.al _ _ _ (fun k hk=>cY _ _ _ _ _ _ _ _ (by have h9:=HEX.out.mem _ _ _ k hk;have h8:=HLE.out;omega))).low (by have:=HLE.out;omega) _ _ _
   ·obtain⟨X,hX⟩:∃X,X=(w1.setCell ⟨V1.heap.size,0,none⟩ (.iface t v)).alloc o:=⟨_,rfl⟩;rw[← hX];have hVV:=HVV.out.1.size;have hVV1:=HVV.out.2.size;have hcl:=HCN.out;have hwc:=HM.out.bel.size;have hr2l:=HM.out.r2.lt;have hbb:=HRD.out.1;have hz1:(w1.setCell ⟨V1.heap.size,0,none⟩ (.iface t v)).heap.size=w1.heap.size:=World.size_setCell ..
    have hfar:∀g:Nat,g < w1.heap.size→g≠V1.heap.size→X.heap[g]? =w1.heap[g]? :=fun g h9 hg=>by
     rw[hX];exact(Below.heap_alloc _ _ _ (by rw[hz1];exact h9)).trans (Below.heap_setCell _ _ _ _ hg)
    have e1:Below w.heap.size w V1:=HRS.out.bel;have hbX:Below w.heap.size w X:=by
     have e2:Below w.heap.size w w1:=Two.below (e1.alloc e1.size _) h2 (by simp;omega) hbb (by omega);rw[hX];exact(e2.setCell (p:=⟨V1.heap.size,0,none⟩) (show w.heap.size≤V1.heap.size by omega) _).alloc (by rw[hz1];exact e2.size) _
    have hs12:V1.heap.size+1≤w1.heap.size:=by have:=h2.size;simpa using this
    have hres:ad X (w.heap.size+1+1) 0 28 cJ:=by
     have e1:ad V1 (w.heap.size+1+1) 0 28 cJ:=(HM.out.r2.below HVV.out.1 HM.out.r2.lt).below HVV.out.2 (by omega);have hnb:w.heap.size+1+1≠b:=by
      rintro rfl;exact absurd (e1.ty HRS.out.lr.row) (by decide)
     exact((e1.alloc _).of_heap (h2.block _ (by simp;omega) hnb (by omega))).of_heap (hfar _ (by omega) (by omega))
    have y0:=hres.cell0 0 (by simp);have z0:=hres.frozen0 0 (by simp);have y1:=hres.cell0 1 (by simp);have z1:=hres.frozen0 1 (by simp);have y2:=hres.cell0 2 (by simp);have z2:=hres.frozen0 2 (by simp);have y3:=hres.cell0 3 (by simp);have z3:=hres.frozen0 3 (by simp);have y4:=hres.cell0 4 (by simp);have z4:=hres.frozen0 4 (by simp);have y5:=hres.cell0 5 (by simp);have z5:=hres.frozen0 5 (by simp);have y6:=hres.cell0 6 (by simp);have z6:=hres.frozen0 6 (by simp);simp only[Z0,Z1]at y0 y1 y2 y3 y4 y5 y6;have HO:=hid ho;have HBX:=hid hbX;have HRES:=hid hres;clear h2 ho hX hfar hVV hVV1 hcl hwc hr2l hbb hz1 hbX hres e1 hs12;go_wp2_with fail;have p0:=HRES.out.aw 0 (by simp) (.string {data:= #[]});have r0:=p0.cell0 0 (by simp);have p1:=p0.aw 1 (by simp) (.int .i64 0);have r1:=p1.cell0 1 (by simp);have p2:=p1.aw 2 (by simp) (.int .i64 0);have r2:=p2.cell0 2 (by simp);have p3:=p2.aw 3 (by simp) (.int .i64 0);have r3:=p3.cell0 3 (by simp);have p4:=p3.aw 4 (by simp) (.int .i64 0);have r4:=p4.cell0 4 (by simp);have p5:=p4.aw 5 (by simp) (.string {data:= #[]});have r5:=p5.cell0 5 (by simp);have p6:=p5.aw 6 (by simp) (.slice none 0 0);have r6:=p6.cell0 6 (by simp);simp only[Z2,Z3,Z0,Z1]at r0 r1 r2 r3 r4 r5 r6;clear p0 p1 p2 p3 p4 p5 p6;refine bodyPost_ret (v:= .tuple #[.agg #[.string {data:= #[]},.int .i64 0,.int .i64 0,.int .i64 0,.int .i64 0,.string {data:= #[]},.slice none 0 0],.iface t v]) (by simp[results,Tryz.results9,go_sem,r0,r1,r2,r3,r4,r5,r6];first|done|rfl) rfl ?_;have hb7:=mY (w0:=w) (w:=X) HBX.out (b:=w.heap.size+1+1) (by omega) (.string {data:= #[]}) (.int .i64 0) (.int .i64 0) (.int .i64 0) (.int .i64 0) (.string {data:= #[]}) (.slice none 0 0);refine⟨hb7,?_⟩;rw[HO.out];exact⟨_,_,rfl⟩
  ·have q1:decide (root∈names tys)=false:=Y9 hroot;rw[q1]at hlk0;have HO:=hid (show aB tys root s=none from tz hroot);clear hroot q1;go_wp2_with fail;go_quiet (fail);clear k1 k2 k3 hlk0;obtain⟨X,hX⟩:∃X,X=wc.drewN nq:=⟨_,rfl⟩;rw[← hX];have hbV:Below wc.heap.size wc X:=by rw[hX];exact ey (Y4 _ _) _
   have hbX:Below w.heap.size w X:=HM.out.bel.trans (hbV.mono HM.out.bel.size);have hres:ad X (w.heap.size+1+1) 0 28 cJ:=HM.out.r2.below hbV HM.out.r2.lt;have y0:=hres.cell0 0 (by simp);have z0:=hres.frozen0 0 (by simp);have y1:=hres.cell0 1 (by simp);have z1:=hres.frozen0 1 (by simp);have y2:=hres.cell0 2 (by simp);have z2:=hres.frozen0 2 (by simp);have y3:=hres.cell0 3 (by simp);have z3:=hres.frozen0 3 (by simp);have y4:=hres.cell0 4 (by simp);have z4:=hres.frozen0 4 (by simp);have y5:=hres.cell0 5 (by simp);have z5:=hres.frozen0 5 (by simp);have y6:=hres.cell0 6 (by simp);have z6:=hres.frozen0 6 (by simp);simp only[Z0,Z1]at y0 y1 y2 y3 y4 y5 y6;have HBX:=hid hbX;have HRES:=hid hres;clear hX hbV hbX hres;go_wp2_with fail;have p0:=HRES.out.aw 0 (by simp) (.string {data:= #[]});have r0:=p0.cell0 0 (by simp);have p1:=p0.aw 1 (by simp) (.int .i64 0);have r1:=p1.cell0 1 (by simp);have p2:=p1.aw 2 (by simp) (.int .i64 0);have r2:=p2.cell0 2 (by simp);have p3:=p2.aw 3 (by simp) (.int .i64 0);have r3:=p3.cell0 3 (by simp);have p4:=p3.aw 4 (by simp) (.int .i64 0);have r4:=p4.cell0 4 (by simp);have p5:=p4.aw 5 (by simp) (.string {data:= #[]});have r5:=p5.cell0 5 (by simp);have p6:=p5.aw 6 (by simp) (.slice none 0 0);have r6:=p6.cell0 6 (by simp);simp only[Z2,Z3,Z0,Z1]at r0 r1 r2 r3 r4 r5 r6;clear p0 p1 p2 p3 p4 p5 p6;refine bodyPost_ret (v:= .tuple #[.agg #[.string {data:= #[]},.int .i64 0,.int .i64 0,.int .i64 0,.int .i64 0,.string {data:= #[]},.slice none 0 0],.iface 48 (.int .i64 7)]) (by simp[results,Tryz.results9,go_sem,r0,r1,r2,r3,r4,r5,r6];first|done|rfl) rfl ?_;have hb7:=mY (w0:=w) (w:=X) HBX.out (b:=w.heap.size+1+1) (by omega) (.string {data:= #[]}) (.int .i64 0) (.int .i64 0) (.int .i64 0) (.int .i64 0) (.string {data:= #[]}) (.slice none 0 0);refine⟨hb7,?_⟩;rw[HO.out];exact⟨_,_,rfl⟩
namespace Ly
def Nds.tot:Nds→Nat
 | .nil=>0
 | .cons _ _ _ _ _ tx ks r=>tx.length+8+ks.tot+r.tot
def Nds.ok:Nds→Prop
 | .nil=>True
 | .cons _ _ _ _ v _ ks r=>Ex.InR v∧ks.ok∧r.ok
def Nd.tot(d:Nd):Nat:=d.text.length+8+d.kids.tot
def Nd.ok(d:Nd):Prop:=Ex.InR d.val∧d.kids.ok
def Nds.drop:Nat→Nds→Nds
 |0,l=>l
 |_+1,.nil=> .nil
 |n+1,.cons _ _ _ _ _ _ _ r=>r.drop n
theorem Nds.de:∀l:Nds,l.drop l.len= .nil
 | .nil=>rfl
 | .cons _ _ _ _ _ _ _ r=>Nds.de r
theorem Nds.cE:∀(l:Nds) (i:Nat),i < l.len→∃(d:Nd) (r:Nds),l.drop i=d.put r∧l.drop (i+1)=r
 | .nil,i,h=>by simp[Nds.len]at h
 | .cons a b c d e f g r,0,_=>⟨⟨a,b,c,d,e,f,g⟩,r,rfl,by cases r <;> rfl⟩
 | .cons _ _ _ _ _ _ _ r,i+1,h=>Nds.cE r i (by simp[Nds.len]at h;omega)
theorem Nds.jt:∀(l:Nds) (i:Nat),(l.drop i).tot≤l.tot
 |l,0=>by cases l <;> exact Z5 _
 | .nil,i+1=>Z5 _
 | .cons _ _ _ _ _ _ _ r,i+1=>by have:=Nds.jt r i;simp only[Nds.drop,Nds.tot];omega
theorem Nds.oB:∀(l:Nds) (i:Nat),l.ok→(l.drop i).ok
 |l,0,h=>by cases l <;> exact h
 | .nil,i+1,h=>h
 | .cons _ _ _ _ _ _ _ r,i+1,h=>Nds.oB r i h.2.2
theorem fI(d:Nd)(r:Nds):(d.put r).tot=d.tot+r.tot:=rfl
theorem pV{d:Nd}{r:Nds}(h:(d.put r).ok):d.ok∧r.ok:=⟨⟨h.1,h.2.1⟩,h.2.2⟩
theorem Fl(w:Tm.Wd)(v:Int):(py w v).length=bj w:=by unfold py lG;simp
end Ly
theorem GH(w:Tm.Wd):bj w≤8:=by
 cases hk:Tm.kindOf w with
 |none=>unfold bj;rw[hk];exact Nat.zero_le _
 |some k=>have:=(lK (show(Tm.kindOf w).isSome=true by rw[hk];rfl)).1;omega
namespace Ly
def fi(W:Wri):Prop:=∀nm ks u,W nm ks=some u→u.length≤ks.tot
theorem oC{W:Wri}(hW:fi W){h:Tm.Hd}{d:Nd}{u:Tm.Wd}(ho:aY W h d=some u):u.length≤d.tot:=by
 unfold aY at ho;unfold Nd.tot;split at ho
 ·cases ho
 ·cases hk:h.k with
  |scalar w=>
   rw[hk]at ho;simp only[]at ho;split at ho
   ·cases ho;rw[Fl];have:=GH w;omega
   ·cases ho
  |bytes=>rw[hk]at ho;cases ho;omega
  |struct t=>rw[hk]at ho;have:=hW _ _ _ ho;omega
theorem tA{f:Nd→Option Tm.Wd}(hf:∀d u,f d=some u→u.length≤d.tot):∀(ks:Nds) (u:Tm.Wd),cO f ks=some u→u.length≤ks.tot
 | .nil,u,h=>by cases h;exact Nat.zero_le _
 | .cons a b c d e g k r,u,h=>by
  unfold cO at h;cases h1:f ⟨a,b,c,d,e,g,k⟩with
  |none=>rw[h1]at h;cases h
  |some x=>
   rw[h1]at h;simp only[Option.bind_some]at h;cases h2:cO f r with
   |none=>rw[h2]at h;cases h
   |some y=>
    rw[h2]at h;cases h;have g1:=hf _ _ h1;have g2:=tA hf r y h2;simp only[Nd.tot]at g1;simp only[Z7,Nds.tot];omega
theorem DG{W:Wri}(hW:fi W){h:Tm.Hd}{d:Nd}{u:Tm.Wd}(ho:bc W h d=some u):u.length≤d.tot:=by
 unfold bc at ho;split at ho
 ·split at ho
  ·cases ho
  ·have:=tA (fun d u h=>oC hW h) _ _ ho;unfold Nd.tot;omega
 ·exact oC hW ho
def ky(W:Wri)(body:Tm.Its)(e:Int)(k:Nds):Option Tm.Wd:=if e=0 then(match k with| .nil=>some []| .cons _ _ _ _ _ _ _ _=>none)else aH W body k
theorem bF(W:Wri)(a0:Nat)(c0:Ex.X)(body l:Tm.Its)(nm:Tm.Wd)(kd at_ sz:Nat)(e:Int)(tx:Tm.Wd)(k r:Nds):aH W (.when a0 c0 body l) (.cons nm kd at_ sz e tx k r)=if nm≠[]∨kd≠4 then none else(ky W body e k).bind fun u=>(aH W l r).map (u++ ·):=by cases k <;> rfl
theorem jU{W:Wri}(hW:fi W):∀(l:Tm.Its) (ks:Nds) (u:Tm.Wd),aH W l ks=some u→u.length≤ks.tot
 | .nil,.nil,u,h=>by cases h;exact Nat.zero_le _
 | .nil,.cons ..,u,h=>by cases h
 | .cons h l,.nil,u,e=>by cases e
 | .cons h l,.cons a b c d e g k r,u,ho=>by
  unfold aH at ho;cases h1:bc W h ⟨a,b,c,d,e,g,k⟩with
  |none=>rw[h1]at ho;cases ho
  |some x=>
   rw[h1]at ho;simp only[Option.bind_some]at ho;cases h2:aH W l r with
   |none=>rw[h2]at ho;cases ho
   |some y=>
    rw[h2]at ho;cases ho;have g1:=DG hW h1;have g2:=jU hW l r y h2;simp only[Nd.tot]at g1;simp only[Z7,Nds.tot];omega
 | .when _ _ _ _,.nil,u,e=>by cases e
 | .when _ _ body l,.cons a b c d e g k r,u,ho=>by
  rw[bF]at ho;split at ho
  ·cases ho
  ·cases h1:ky W body e k with
   |none=>rw[h1]at ho;cases ho
   |some x=>
    rw[h1]at ho;simp only[Option.bind_some]at ho;cases h2:aH W l r with
    |none=>rw[h2]at ho;cases ho
    |some y=>
     rw[h2]at ho;cases ho;have g2:=jU hW l r y h2;have g1:x.length≤k.tot:=by
      unfold ky at h1;split at h1
      ·split at h1
       ·cases h1;exact Nat.zero_le _
       ·cases h1
      ·exact jU hW body k x h1
     simp only[Z7,Nds.tot];omega
theorem mZ:∀l:List Tm.Ty,fi (wrS l)
 |[],nm,ks,u,h=>by cases h
 |t::r,nm,ks,u,h=>by
  unfold wrS at h;split at h
  ·exact jU (mZ r) _ _ _ h
  ·exact mZ r nm ks u h
theorem pW{W:Wri}:∀(l:Tm.Its) (ks:Nds) (u:Tm.Wd),aH W l ks=some u→l.len=ks.len
 | .nil,.nil,u,h=>rfl
 | .nil,.cons ..,u,h=>by cases h
 | .cons h l,.nil,u,e=>by cases e
 | .cons h l,.cons a b c d e g k r,u,ho=>by
  unfold aH at ho;cases h1:bc W h ⟨a,b,c,d,e,g,k⟩with
  |none=>rw[h1]at ho;cases ho
  |some x=>
   rw[h1]at ho;simp only[Option.bind_some]at ho;cases h2:aH W l r with
   |none=>rw[h2]at ho;cases ho
   |some y=>simp only[Tm.Its.len,Nds.len];rw[pW l r y h2]
 | .when _ _ _ _,.nil,u,e=>by cases e
 | .when _ _ body l,.cons a b c d e g k r,u,ho=>by
  rw[bF]at ho;split at ho
  ·cases ho
  ·cases h1:ky W body e k with
   |none=>rw[h1]at ho;cases ho
   |some x=>
    rw[h1]at ho;simp only[Option.bind_some]at ho;cases h2:aH W l r with
    |none=>rw[h2]at ho;cases ho
    |some y=>simp only[Tm.Its.len,Nds.len];rw[pW l r y h2]
end Ly
theorem ep(w:World):Calls Tryz.prog 66 #[.bool false] w fun e w'=>e= .returned (.tuple #[])∧w=w':=by
 go_enter Tryz.func66,Tryz.ntmps66;go_wp2_with fail;refine bodyPost_end (results_none rfl _ _ _) rfl ?_;exact⟨rfl,rfl⟩
end
end Go.Proofs.YtlomecfhobehnaaGreatDoor
