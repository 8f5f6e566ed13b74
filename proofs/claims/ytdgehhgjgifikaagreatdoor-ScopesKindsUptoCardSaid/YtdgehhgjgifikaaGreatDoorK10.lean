/- What the claim needs of:YK. -/
import Derived.Test.YtdgehhgjgifikaaGreatDoorK9
namespace Go.Proofs.YtdgehhgjgifikaaGreatDoor
open Go.RowKit Go.Sort
def fF (F:List Tx):Tx→Option Value:=fun s=>if s∈F then some (.bool true) else none
def fL (L:List (Tx × Nat)):Tx→Option Value:=fun s=>(zU2 L s).map fun b=>.pointer (some ⟨b,0,none⟩)
theorem zM5 {w:World}{g:Nat}{ty:TypeId}{v0 v1 v2 v3:Value}(h:Blk w g ty #[v0,v1,v2,v3]):w.cell? ⟨g,0,none⟩=some v0∧w.cell? ⟨g,1,none⟩=some v1∧w.cell? ⟨g,2,none⟩=some v2∧w.cell? ⟨g,3,none⟩=some v3:=⟨h.cell 0,h.cell 1,h.cell 2,h.cell 3⟩
def yK7 (w:World)(o:Value)(dep:Int)(e:Ending)(w':World):Prop:=
 e=.returned (.pointer (some ⟨w.heap.size+2,0,none⟩))∧Below w.heap.size w w'∧w'.heap.size=w.heap.size+3∧Blk w' (w.heap.size+2) 122 #[.map (some w.heap.size),.map (some (w.heap.size+1)),o,.int .i64 dep]∧
  OMap KS w' w.heap.size 0 (fF [])∧OMap KS w' (w.heap.size+1) 0 (fL [])
theorem yX3 (w:World)(o:Value):yK7 w o 0 (.returned (.pointer (some ⟨w.heap.size+2,0,none⟩))) (((w.alloc (.map #[] 0)).alloc (.map #[] 0)).alloc (.cells #[.map (some w.heap.size),.map (some (w.heap.size+1)),o,.int .i64 0] 122)):=by
 refine⟨rfl,(((qH.alloc qJ _).alloc (by simp) _).alloc (by simp;omega) _),by simp,?_,?_,?_⟩
 ·have:=Blk.new ((w.alloc (.map #[] 0)).alloc (.map #[] 0)) 122 #[.map (some w.heap.size),.map (some (w.heap.size+1)),o,.int .i64 0];rw[World.size_alloc,World.size_alloc] at this;exact this
 ·exact(((OMap.made KS w).alloc _).alloc _).congr fun a _=>rfl
 ·have:=(OMap.made KS (w.alloc (.map #[] 0))).alloc (.cells #[.map (some w.heap.size),.map (some (w.heap.size+1)),o,.int .i64 0] 122);rw[World.size_alloc] at this;exact this.congr fun a _=>rfl
theorem xY4 (w:World):Calls Tryz.prog 71 #[.pointer none] w (yK7 w (.pointer none) 0):=by
 have HO:=qK (yX3 w (.pointer none));have hmm:=@run_makeMap Tryz.prog;go_enter Tryz.func71,Tryz.ntmps71
 go_wp2;go_ret;exact HO.out
set_option maxHeartbeats 1000000 in
theorem xY5 (s:Nat)(v0 v1 v2:Value)(dep:Int)(w:World)(hS:Blk w s 122 #[v0,v1,v2,.int .i64 dep])(h0:0≤dep)(h1:dep≤1099511627776):Calls Tryz.prog 71 #[.pointer (some ⟨s,0,none⟩)] w (yK7 w (.pointer (some ⟨s,0,none⟩)) (dep+1)):=by
 have HO:=qK (yX3 w (.pointer (some ⟨s,0,none⟩)));have HS:=qK hS;clear hS;have hmm:=@run_makeMap Tryz.prog;go_enter Tryz.func71,Tryz.ntmps71
 go_upto_region 2 with fail
 clear hmm;have HZ:=qK (show (((w.alloc (.map #[] 0)).alloc (.map #[] 0)).alloc (.cells #[.map (some w.heap.size),.map (some (w.heap.size+1)),.pointer (some ⟨s,0,none⟩),.int .i64 0] 122)).heap.size=w.heap.size+3 from by simp);generalize ((w.alloc (.map #[] 0)).alloc (.map #[] 0)).alloc (.cells #[.map (some w.heap.size),.map (some (w.heap.size+1)),.pointer (some ⟨s,0,none⟩),.int .i64 0] 122)=w1 at HO HZ ⊢;obtain⟨s0,s1,s2,s3⟩:=zM5 (HS.out.keep HO.out.2.1);have hB1:=HO.out.2.2.2.1;obtain⟨b0,b1,b2,b3⟩:=zM5 hB1;have f3:w1.frozen? ⟨w.heap.size+2,3,none⟩=false:=hB1.free 3;clear hB1;go_wp2;go_ret;obtain⟨_,h2,h3,h4,h5,h6⟩:=HO.out;refine⟨rfl,h2.setCell (by show w.heap.size≤w.heap.size+2;omega) _,by simpa[World.setCell] using h3,?_,h5.far (by show w.heap.size≠w.heap.size+2;omega) _,h6.far (by show w.heap.size+1≠w.heap.size+2;omega) _⟩;have h7:=h4.set_ 3 (.int .i64 (dep+1));simpa using h7
def zT4:List Tx→List Tx→Bool
 | _,[]=>true
 | seen,x ::r=>!decide (x∈seen)&&zT4 (seen++ [x]) r
theorem zJ8:∀ (l seen:List Tx)(x:Tx),zT4 seen (l++ [x])=(zT4 seen l&& !decide (x∈seen++l))
 | [],seen,x=>by simp[zT4]
 | y ::l,seen,x=>by
   rw[List.cons_append,zT4,zJ8 l (seen++ [y]) x,zT4,Bool.and_assoc];simp
theorem yC0 (l:List DA)(k:Nat)(h:k < l.length):zZ7 (l.take (k+1))=zZ7 (l.take k)++if yY1 l[k] then[l[k]] else[]:=by
 unfold zZ7;rw[List.take_succ_eq_append_getElem h,List.filter_append];congr 1;simp[List.filter_cons]
theorem yO7 (l:List DA)(k:Nat)(h:k < l.length):zZ9 (l.take (k+1))=zZ9 (l.take k)++if (plD l[k]).k=1∧zY7 (plD l[k]).l=true then[(plD l[k]).l] else[]:=by
 unfold zZ9 zH8;rw[List.take_succ_eq_append_getElem h,zX3,List.map_append,List.filterMap_append,zX3];congr 1;simp only[List.map_cons,List.map_nil,List.filterMap_cons,List.filterMap_nil];split <;> rename_i hx
 ·split at hx
  ·cases hx
  ·rename_i hn;rw[if_neg hn]
 ·split at hx
  ·rename_i hy;injection hx with hx;subst hx;rw[if_pos hy]
  ·cases hx
theorem zJ1 (L:List (Tx × Nat))(ns:List Tx)(bs:List Nat)(hl:bs.length=ns.length)(x:Tx):zU2 (L++ns.zip bs) x=none↔x∉L.map (·.1)++ns:=by
 rw[zF5];constructor
 ·intro h hx;rcases List.mem_append.1 hx with hx | hx
  ·obtain⟨p,hp,rfl⟩:=List.mem_map.1 hx;exact h p.2 (List.mem_append_left _ hp)
  ·obtain⟨i,hi,rfl⟩:=List.mem_iff_getElem.1 hx;refine h (bs[i]' qG) (List.mem_append_right _ ?_);rw[List.mem_iff_getElem];exact⟨i,by simp;omega,by simp⟩
 ·intro h b hb;refine h ?_;rcases List.mem_append.1 hb with hb | hb
  ·exact List.mem_append_left _ (List.mem_map.2 ⟨_,hb,rfl⟩)
  ·exact List.mem_append_right _ (List.of_mem_zip hb).1
def letV (d:DA)(s file:Nat):Array Value:=(encD d++([.pointer (some ⟨s,0,none⟩),.int .i64 (file:Nat),.bool false,.bool false,.int .i64 0,.int .i64 0,.string ByteArray.empty,.int .i64 0,.string ByteArray.empty,.string ByteArray.empty,.slice none 0 0,.slice none 0 0,.slice none 0 0,.int .i64 0,.bool false]:List Value)).toArray
structure DcSt (w:World)(s bF bL file:Nat)(F:List Tx)(L:List (Tx × Nat))(l:List DA)(bs:List Nat)(wr:World):Prop where
 hk:Kp (fun b=>b=bF∨b=bL) w wr
 hf:OMap KS wr bF (F++zZ9 l).length (fF (F++zZ9 l))
 hl:OMap KS wr bL (L.length+bs.length) (fL (L++((zZ7 l).map lblD).zip bs))
 hb:∀ p∈bs.zip (zZ7 l),Blk wr p.1 102 (letV p.2 s file)
 hn:∀ b∈bs,w.heap.size≤b∧b < wr.heap.size
 hp:bs.Pairwise (· < ·)
 len:bs.length=(zZ7 l).length
section
variable {w wx wy:World}{s bF bL file:Nat}{F:List Tx}{L:List (Tx × Nat)}{l:List DA}{bs:List Nat}
theorem DcSt.below (h:DcSt w s bF bL file F L l bs wx)(hb:Below wx.heap.size wx wy):DcSt w s bF bL file F L l bs wy:=
 ⟨h.hk.below hb,h.hf.below hb,h.hl.below hb,fun p hp=>(h.hb p hp).keep hb,fun b hbb=>⟨(h.hn b hbb).1,Nat.lt_of_lt_of_le (h.hn b hbb).2 hb.size⟩,h.hp,h.len⟩
theorem DcSt.field (h:DcSt w s bF bL file F L l bs wx)(hne:bF≠bL){x:Tx}{q:Nat}(hq:q=(F++zZ9 l).length)(hO:OMap KS wy bF (q+1) (fun y=>if y=x then some (.bool true) else fF (F++zZ9 l) y))(hg:wx.grownBy wy (some bF)){l':List DA}(e1:zZ9 l'=zZ9 l++ [x])(e2:zZ7 l'=zZ7 l):DcSt w s bF bL file F L l' bs wy:=by
 subst hq;refine⟨h.hk.grown hg (fun k hk=>.inl (.inl (by injection hk with hk;exact hk.symm))),?_,?_,fun p hp=>?_,fun b hbb=>⟨(h.hn b hbb).1,Nat.lt_of_lt_of_le (h.hn b hbb).2 hg.size⟩,h.hp,by rw[e2];exact h.len⟩
 ·rw[e1];have:(F++(zZ9 l++ [x])).length=(F++zZ9 l).length+1:=by simp;omega
  rw[this];refine hO.congr fun y _=>?_;unfold fF;by_cases hy:y=x
  ·subst hy;simp
  ·rw[if_neg hy];have:(y∈F++(zZ9 l++ [x]))=(y∈F++zZ9 l):=by simp[hy]
   simp only[this]
 ·rw[e2];exact h.hl.kept hg (by simpa using fun e=>hne e.symm)
 ·rw[e2] at hp;have hbk:=h.hb p hp;exact hbk.grown hg (by simpa using fun e=>zY4 hbk h.hf e)
theorem DcSt.let_ (h:DcSt w s bF bL file F L l bs wx)(hne:bF≠bL){d:DA}{gn q:Nat}(hgn:∀ b∈bs,b < gn)(hgw:w.heap.size≤gn)(hG:Blk wx gn 102 (letV d s file))(hq:q=L.length+bs.length)(hO:OMap KS wy bL (q+1) (fun y=>if y=lblD d then some (.pointer (some ⟨gn,0,none⟩)) else fL (L++((zZ7 l).map lblD).zip bs) y))(hg:wx.grownBy wy (some bL)){l':List DA}(e1:zZ9 l'=zZ9 l)(e2:zZ7 l'=zZ7 l++ [d]):DcSt w s bF bL file F L l' (bs++ [gn]) wy:=by
 subst hq;have hlen:=h.len;have hz:((zZ7 l').map lblD).zip (bs++ [gn])=((zZ7 l).map lblD).zip bs++ [(lblD d,gn)]:=by
  rw[e2,List.map_append,List.zip_append (by simp[hlen])];rfl
 refine⟨h.hk.grown hg (fun k hk=>.inl (.inr (by injection hk with hk;exact hk.symm))),?_,?_,fun p hp=>?_,fun b hbb=>?_,?_,by rw[e2];simp[hlen]⟩
 ·rw[e1];exact h.hf.kept hg (by simpa using hne)
 ·rw[hz];have:L.length+(bs++ [gn]).length=L.length+bs.length+1:=by simp;omega
  rw[this];refine hO.congr fun y _=>?_;unfold fL;rw[←List.append_assoc,yO6];by_cases hy:y=lblD d
  ·subst hy;simp[zU2]
  ·rw[if_neg hy];have:zU2 [(lblD d,gn)] y=none:=by simp[zU2,Ne.symm hy]
   rw[this]
 ·rw[e2,List.zip_append (by exact hlen)] at hp;rcases List.mem_append.1 hp with hp | hp
  ·have hbk:=h.hb p hp;exact hbk.grown hg (by simpa using fun e=>zY4 hbk h.hl e)
  ·simp only[List.zip_cons_cons,List.zip_nil_right,List.mem_singleton] at hp;subst hp;exact hG.grown hg (by simpa using fun e=>zY4 hG h.hl e)
 ·rcases List.mem_append.1 hbb with hbb | hbb
  ·exact⟨(h.hn b hbb).1,Nat.lt_of_lt_of_le (h.hn b hbb).2 hg.size⟩
  ·rw[List.mem_singleton.1 hbb];exact⟨hgw,Nat.lt_of_lt_of_le hG.lt hg.size⟩
 ·rw[List.pairwise_append];refine⟨h.hp,by simp,fun a ha b hb=>?_⟩;rw[List.mem_singleton.1 hb];exact hgn a ha
theorem DcSt.same (h:DcSt w s bF bL file F L l bs wx){l':List DA}(e1:zZ9 l'=zZ9 l)(e2:zZ7 l'=zZ7 l):DcSt w s bF bL file F L l' bs wx:=by
 obtain⟨h1,h2,h3,h4,h5,h6,h7⟩:=h;refine⟨h1,by rw[e1];exact h2,by rw[e2];exact h3,by rw[e2];exact h4,h5,h6,by rw[e2];exact h7⟩
end
def okD2 (F:List Tx)(L:List (Tx × Nat))(l:List DA):Bool:=zT4 (L.map (·.1)) ((zZ7 l).map lblD)&&(L.map (·.1)++(zZ7 l).map lblD).all fun x=>!decide (x∈F++zZ9 l)
def RetDc (w:World)(s bF bL file:Nat)(F:List Tx)(L:List (Tx × Nat))(l:List DA)(e:Ending)(w':World):Prop:=∃ bs:List Nat,e=.returned (.bool (okD2 F L l))∧DcSt w s bF bL file F L l bs w'
set_option maxRecDepth 100000 in
theorem zP3 {o:Oper}{P:Program}{Q:Exit→Act→World→Prop}{K:Act→World→Prop}{W:World}{fs:List Fact}{G:Act→Prop}{aa ab ac ad ae af ag ah ai aj ak al am an ao ap aq ar au av aw ax ay az aA aB aC aD aE aF aG aH aI aJ aK aL aM aN aO aP aQ aR aS aT aU aV aW aX aY aZ a0 a1 a2 a3 a4 a5 a6 a7 a8 a9 ba bb bc bd be bf bg bh bi bj bk bl bm bn bo bp bq br bs bt bu bv bw bx bz:Value}(hG:∀ A,o.wp P A W K Q→G A)(h:o.wp P (Act.mk #[aa,ab,ac,ad,ae,af,ag,ah,ai,aj,ak,al,am,an,ao,ap,aq,ar,au,av,aw,ax,ay,az,aA,aB,aC,bt,bu,bv,bw,bx,bz,aJ,aK,aL,aM,aN,aO,aP,aQ,aR,aS,aT,aU,aV,aW,aX,aY,aZ,a0,a1,a2,a3,a4,a5,a6,a7,a8,a9,ba,bb,bc,bd,be,bf,bg,bh,bi,bj,bk,bl,bm,bn,bo,bp,bq,br,bs] []) W K Q):zY0 W G [] fs (Act.put (Act.put (Act.put (Act.put (Act.put (Act.put (Act.mk #[aa,ab,ac,ad,ae,af,ag,ah,ai,aj,ak,al,am,an,ao,ap,aq,ar,au,av,aw,ax,ay,az,aA,aB,aC,aD,aE,aF,aG,aH,aI,aJ,aK,aL,aM,aN,aO,aP,aQ,aR,aS,aT,aU,aV,aW,aX,aY,aZ,a0,a1,a2,a3,a4,a5,a6,a7,a8,a9,ba,bb,bc,bd,be,bf,bg,bh,bi,bj,bk,bl,bm,bn,bo,bp,bq,br,bs] []) (some 27) bt) (some 28) bu) (some 29) bv) (some 30) bw) (some 31) bx) (some 32) bz):=
 zV2 qF hG h
set_option maxRecDepth 100000 in
theorem zH9 {o:Oper}{P:Program}{Q:Exit→Act→World→Prop}{K:Act→World→Prop}{W:World}{fs:List Fact}{G:Act→Prop}{aa ab ac ad ae af ag ah ai aj ak al am an ao ap aq ar au av aw ax ay az aA aB aC aD aE aF aG aH aI aJ aK aL aM aN aO aP aQ aR aS aT aU aV aW aX aY aZ a0 a1 a2 a3 a4 a5 a6 a7 a8 a9 ba bb bc bd be bf bg bh bi bj bk bl bm bn bo bp bq br bs bt bu bv bw bx bz bA bB bC bD bE:Value}(hG:∀ A,o.wp P A W K Q→G A)(h:o.wp P (Act.mk #[aa,ab,ac,ad,ae,af,ag,ah,ai,aj,ak,al,am,an,ao,ap,aq,ar,au,av,aw,ax,ay,az,aA,aB,aC,aD,aE,aF,aG,aH,aI,aJ,aK,aL,aM,aN,aO,aP,aQ,aR,aS,aT,aU,aV,aW,bt,bu,bv,bw,bx,bz,bA,bB,bC,bD,bE,a8,a9,ba,bb,bc,bd,be,bf,bg,bh,bi,bj,bk,bl,bm,bn,bo,bp,bq,br,bs] []) W K Q):zY0 W G [] fs (Act.put (Act.put (Act.put (Act.put (Act.put (Act.put (Act.put (Act.put (Act.put (Act.put (Act.put (Act.mk #[aa,ab,ac,ad,ae,af,ag,ah,ai,aj,ak,al,am,an,ao,ap,aq,ar,au,av,aw,ax,ay,az,aA,aB,aC,aD,aE,aF,aG,aH,aI,aJ,aK,aL,aM,aN,aO,aP,aQ,aR,aS,aT,aU,aV,aW,aX,aY,aZ,a0,a1,a2,a3,a4,a5,a6,a7,a8,a9,ba,bb,bc,bd,be,bf,bg,bh,bi,bj,bk,bl,bm,bn,bo,bp,bq,br,bs] []) (some 47) bt) (some 48) bu) (some 49) bv) (some 50) bw) (some 51) bx) (some 52) bz) (some 53) bA) (some 54) bB) (some 55) bC) (some 56) bD) (some 57) bE):=
 zV2 qF hG h
set_option maxRecDepth 100000 in
theorem zP4 {Q:Exit→Act→World→Prop}{W:World}{fs:List Fact}{aa ab ac ad ae af ag ah ai aj ak al am an ao ap aq ar au av aw ax ay az aA aB aC aD aE aF aG aH aI aJ aK aL aM aN aO aP aQ aR aS aT aU aV aW aX aY aZ a0 a1 a2 a3 a4 a5 a6 a7 a8 a9 ba bb bc bd be bf bg bh bi bj bk bl bm bn bo bp bq br bs bt bu bv bw bx bz bA bB bC bD bE bF:Value}(h:Q .normal (Act.mk #[aa,ab,ac,ad,ae,af,ag,ah,ai,bF,ak,al,am,an,ao,ap,aq,ar,au,av,aw,ax,ay,az,aA,aB,aC,aD,aE,aF,aG,aH,aI,aJ,aK,aL,bt,bu,bv,bw,bx,bz,bA,bB,bC,bD,bE,aX,aY,aZ,a0,a1,a2,a3,a4,a5,a6,a7,a8,a9,ba,bb,bc,bd,be,bf,bg,bh,bi,bj,bk,bl,bm,bn,bo,bp,bq,br,bs] []) W):zY0 W (fun A=>Q .normal A W) [] fs (Act.put (Act.put (Act.put (Act.put (Act.put (Act.put (Act.put (Act.put (Act.put (Act.put (Act.put (Act.put (Act.mk #[aa,ab,ac,ad,ae,af,ag,ah,ai,aj,ak,al,am,an,ao,ap,aq,ar,au,av,aw,ax,ay,az,aA,aB,aC,aD,aE,aF,aG,aH,aI,aJ,aK,aL,aM,aN,aO,aP,aQ,aR,aS,aT,aU,aV,aW,aX,aY,aZ,a0,a1,a2,a3,a4,a5,a6,a7,a8,a9,ba,bb,bc,bd,be,bf,bg,bh,bi,bj,bk,bl,bm,bn,bo,bp,bq,br,bs] []) (some 36) bt) (some 37) bu) (some 38) bv) (some 39) bw) (some 40) bx) (some 41) bz) (some 42) bA) (some 43) bB) (some 44) bC) (some 45) bD) (some 46) bE) (some 9) bF):=
 zL1 qF h
set_option maxRecDepth 100000 in
set_option maxHeartbeats 16000000 in
theorem zC8 (s bF bL file B:Nat)(o:Value)(dep:Int)(A:Option Addr)(c:Nat)(l:List DA)(F:List Tx)(L:List (Tx × Nat))(w:World)(hS:Blk w s 122 #[.map (some bF),.map (some bL),o,.int .i64 dep])
  (hF:OMap KS w bF F.length (fF F))(hL:OMap KS w bL L.length (fL L))(hA:SlN w B 11 encD A l)(hO:OkAds w B l)(hbF:B≤bF)(hbL:B≤bL)(hne:bF≠bL)(hLn:∀ p∈L,p.1.length≤maxLen)(hFl:F.length≤1099511627776)(hLl:L.length≤1099511627776) :
  Calls Tryz.prog 72 #[.pointer (some ⟨s,0,none⟩),.slice A l.length c,.pointer (some ⟨s,0,none⟩),.int .i64 (file:Nat)] w (RetDc w s bF bL file F L l):=by
 have hl:=hA.2;have HA:=qK hA;have HO:=qK hO;have HS:=qK hS;have HNE:=qK hne;have HLn:=qK hLn;have hwB:B≤w.heap.size:=by have:=hF.lt;omega
 have D0:DcSt w s bF bL file F L [] [] w:=⟨Kp.refl _ _,by simpa[zZ9,zH8,plDs] using hF,by simpa[zZ7] using hL,by simp,by simp,List.Pairwise.nil,rfl⟩;have hsF:s≠bF:=zY4 hS hF;have hsL:s≠bL:=zY4 hS hL;have HSF:=qK hsF;have HSL:=qK hsL;clear hA hO hS hF hL hne hsF hsL hLn;go_enter Tryz.func72,Tryz.ntmps72
 go_wp2;go_loopw [15,9] (fun i v9 wr=>∃ (k:Nat) (bs:List Nat),k≤l.length∧i=.int .i64 (k:Nat)∧v9=.bool (zT4 (L.map (·.1)) ((zZ7 (l.take k)).map lblD))∧DcSt w s bF bL file F L (l.take k) bs wr) (fun i _ _=>l.length-(intOf i).toNat)
 case atStart=>exact⟨0,[],Nat.zero_le _,rfl,rfl,D0⟩
 case round=>
  obtain⟨k,bs,hk,rfl,rfl,Dk⟩:=hrel;by_cases hlt:k < l.length
  ·have hlt':(k:Int) < (l.length:Int):=by omega
   have HTl:=qK (yC0 l k hlt);have HTf:=qK (yO7 l k hlt);have hlo:(F++zZ9 (l.take k)).length < maxLen:=by
    have:(zZ9 (l.take k)).length≤(l.take k).length:=by
     unfold zZ9 zH8;rw[zX3];exact Nat.le_trans (List.length_filterMap_le _ _) (by simp)
    have:(l.take k).length≤l.length:=by rw[List.length_take];omega
    rw[List.length_append];unfold maxLen;omega
   have hll:L.length+bs.length < maxLen:=by
    have:bs.length≤(l.take k).length:=by rw[Dk.len];exact List.length_filter_le _ _
    have:(l.take k).length≤l.length:=by rw[List.length_take];omega
    unfold maxLen;omega
   have HLO:=qK hlo;have HLL:=qK hll;have hBw:Below B w wr:=Dk.hk.toBelow hwB (fun i hi h=>by omega);have hd:=HO.out.at_ (List.getElem_mem hlt);obtain⟨b,off,hA,hbB,hc⟩:=(HA.out.below hBw).1.at_ hlt;have hbW:b < wr.heap.size:=by have:=Dk.hk.size;omega
   have HM:=qK (List.getElem_mem hlt);clear hlo hll hBw;generalize l[k]=d at hc HTl HTf hd HM;obtain⟨dk,dpr,dl,da,db,dAs,dcs,dsubs,dAb,dcb,dbody,dAt,dct,dtail,dAl,dcl,dlead,dtr,dpos⟩:=d;have c0:=hc 0 _ rfl;have c1:=hc 1 _ rfl;have c2:=hc 2 _ rfl;have c3:=hc 3 _ rfl;have c4:=hc 4 _ rfl;have c5:=hc 5 _ rfl;have c6:=hc 6 _ rfl;have c7:=hc 7 _ rfl;have c8:=hc 8 _ rfl;have c9:=hc 9 _ rfl;have c10:=hc 10 _ rfl;simp only[Nat.add_zero] at c0;have HDl:=qK (show dl.length≤maxLen from hd.1.1);have HAd:=qK hA;clear hc hd;subst hA;go_upto_region 5 with fail
   have D4:=Dk.below (qH.alloc qJ (.cells #[.int .i64 dk,.int .i64 dpr,.string ⟨dl.toArray⟩,.string ⟨da.toArray⟩,.string ⟨db.toArray⟩,.slice dAs dsubs.length dcs,.slice dAb dbody.length dcb,.slice dAt dtail.length dct,.slice dAl dlead.length dcl,.string ⟨dtr.toArray⟩,.int .i64 dpos] 71));have V4:=Blk.new wr 71 #[.int .i64 dk,.int .i64 dpr,.string ⟨dl.toArray⟩,.string ⟨da.toArray⟩,.string ⟨db.toArray⟩,.slice dAs dsubs.length dcs,.slice dAb dbody.length dcb,.slice dAt dtail.length dct,.slice dAl dlead.length dcl,.string ⟨dtr.toArray⟩,.int .i64 dpos];obtain⟨v,hv⟩:∃ v,v=wr.heap.size:=⟨_,rfl⟩;rw[←hv] at V4 ⊢;have S4:Blk (wr.alloc (.cells #[.int .i64 dk,.int .i64 dpr,.string ⟨dl.toArray⟩,.string ⟨da.toArray⟩,.string ⟨db.toArray⟩,.slice dAs dsubs.length dcs,.slice dAb dbody.length dcb,.slice dAt dtail.length dct,.slice dAl dlead.length dcl,.string ⟨dtr.toArray⟩,.int .i64 dpos] 71)) s 122 #[.map (some bF),.map (some bL),o,.int .i64 dep]:=(Dk.hk.blk HS.out (by rintro(h | h);exact HSF.out h;exact HSL.out h)).alloc _;clear c0 c1 c2 c3 c4 c5 c6 c7 c8 c9 c10 hv Dk;generalize hw4:wr.alloc (.cells #[.int .i64 dk,.int .i64 dpr,.string ⟨dl.toArray⟩,.string ⟨da.toArray⟩,.string ⟨db.toArray⟩,.slice dAs dsubs.length dcs,.slice dAb dbody.length dcb,.slice dAt dtail.length dct,.slice dAl dlead.length dcl,.string ⟨dtr.toArray⟩,.int .i64 dpos] 71)=w4 at D4 V4 S4 ⊢;clear hw4;have HV4:=qK V4;have HS4:=qK S4;clear V4 S4;have HE1:=qK (show zZ9 (l.take (k+1))=zZ9 (l.take k)++if dk=1∧zY7 dl=true then[dl] else[] from HTf.out);have HE2:=qK (show zZ7 (l.take (k+1))=zZ7 (l.take k)++if dk=4 then[.mk dk dpr dl da db dAs dcs dsubs dAb dcb dbody dAt dct dtail dAl dcl dlead dtr dpos] else[] from by
    rw[HTl.out];congr 1;unfold yY1;show (if decide (dk=4)=true then _ else _)=_;simp only[decide_eq_true_eq])
   clear HTl HTf;cases h1:((dk:Int) == 1)
   ·cases h4:((dk:Int) == 4)
    ·have D7:=D4.same (l':=l.take (k+1)) (by rw[HE1.out,if_neg (fun h=>beq_eq_false_iff_ne.1 h1 h.1),List.append_nil]) (by rw[HE2.out,if_neg (beq_eq_false_iff_ne.1 h4),List.append_nil]);have HE3:=qK (show zZ7 (l.take (k+1))=zZ7 (l.take k) from by rw[HE2.out,if_neg (beq_eq_false_iff_ne.1 h4),List.append_nil]);obtain⟨d0,d1,d2,d3,d4,d5,d6,d7,d8,d9,d10⟩:=zS1 HV4.out;go_wp2;go_roundw
     case rel=>exact⟨k+1,bs,by omega,by go_num,by rw[HE3.out],D7⟩
     case measure=>simp[intOf];omega
    ·have HE3:=qK (show zZ7 (l.take (k+1))=zZ7 (l.take k)++ [.mk dk dpr dl da db dAs dcs dsubs dAb dcb dbody dAt dct dtail dAl dcl dlead dtr dpos] from by rw[HE2.out,if_pos (beq_iff_eq.1 h4)]);have HE4:=qK (show zZ9 (l.take (k+1))=zZ9 (l.take k) from by rw[HE1.out,if_neg (fun h=>beq_eq_false_iff_ne.1 h1 h.1),List.append_nil]);have HFs:=qK (show zT4 (L.map (·.1)) ((zZ7 (l.take (k+1))).map lblD)=(zT4 (L.map (·.1)) ((zZ7 (l.take k)).map lblD)&&(zU2 (L++((zZ7 (l.take k)).map lblD).zip bs) dl).isNone) from by
      rw[HE3.out,List.map_append,List.map_cons,List.map_nil,zJ8];congr 1;have:=zJ1 L ((zZ7 (l.take k)).map lblD) bs (by rw[D4.len,List.length_map]) dl;rw[Bool.eq_iff_iff,Option.isNone_iff_eq_none,this];simp;rfl)
     generalize zT4 (L.map (·.1)) ((zZ7 (l.take k)).map lblD)=ok1 at HFs ⊢;obtain⟨d0,d1,d2,d3,d4,d5,d6,d7,d8,d9,d10⟩:=zS1 HV4.out;obtain⟨s0,s1,s2,s3⟩:=zM5 HS4.out;have hzs:s < w4.heap.size:=HS4.out.lt;have hzv:v < w4.heap.size:=HV4.out.lt;go_upto_region 8 with fail
     go_cut [9] from 36 to 46 (fun v9 wx=>v9=.bool (ok1&&(zU2 (L++((zZ7 (l.take k)).map lblD).zip bs) dl).isNone)∧Below w4.heap.size w4 wx)
     case first=>
      cases hlk:zU2 (L++((zZ7 (l.take k)).map lblD).zip bs) dl with
      | none=>
        have HLK:=qK (show ∀ W,Below w4.heap.size w4 W→(Instr.lookup 118 (.map (some bL)) (.string ⟨dl.toArray⟩) false).run Tryz.prog W=.ok (.pointer none) W from fun W hB=>by
         have h:=(D4.hl.below hB).look Tryz.underlying118 (Tryz.zeroValue80 W) dl HDl.out;unfold fL at h;rw[hlk] at h;exact h)
        cases ok1;apply zZ3 qF [isv _,isv _,isv _,isv _,isv _,isv _,isv _,isv _,isv _,isv _,isv _,isv _] w4.heap.size w4 qJ qH.drew qF qF qF (qC (qC (qC (qC (qC (qC (qC (qC (qC (qC (qC (qC trivial)))))))))))) ?steps (by rfl) ?fin;case steps=>exact qA (jN 11 9) (qA (qQ 0 36) (qA (qR 0 1 37) (qA (qP 1 37 2 38) (qA (qP 1 37 3 39) (qA (kT 1 37 4 40) (qA (qR 11 1 37) (qA (kU 1 37 6 42) (qA (kE 1 37 5 41 7 43) (qA (qP 1 37 8 44) (qA (qV 1 37 9 45) (qA (qQ 10 46) trivial)))))))))))
        case fin=>exact xF
        apply zZ3 qF [isv _,isv _,isv _,isv _,isv _,isv _,isv _,isv _,isv _,isv _,isv _,isv _] w4.heap.size w4 qJ qH.drew qF qF qF (qC (qC (qC (qC (qC (qC (qC (qC (qC (qC (qC (qC trivial)))))))))))) ?steps (by rfl) ?fin;case steps=>exact qA (jN 11 9) (qA (qQ 0 36) (qA (qR 0 1 37) (qA (qP 1 37 2 38) (qA (qP 1 37 3 39) (qA (kT 1 37 4 40) (qA (qR 11 1 37) (qA (kU 1 37 6 42) (qA (jT 1 37 5 41 7 43) (qA (qP 1 37 8 44) (qA (qV 1 37 9 45) (qA (qQ 10 46) trivial)))))))))))
        case fin=>exact xB
      | some bb=>
        have HLK:=qK (show ∀ W,Below w4.heap.size w4 W→(Instr.lookup 118 (.map (some bL)) (.string ⟨dl.toArray⟩) false).run Tryz.prog W=.ok (.pointer (some ⟨bb,0,none⟩)) W from fun W hB=>by
         have h:=(D4.hl.below hB).look Tryz.underlying118 (Tryz.zeroValue80 W) dl HDl.out;unfold fL at h;rw[hlk] at h;exact h)
        cases ok1;apply zZ3 qF [isv _,isv _,isv _,isv _,isv _,isv _,isv _,isv _,isv _,isv _,isv _,isv _] w4.heap.size w4 qJ qH.drew qF qF qF (qC (qC (qC (qC (qC (qC (qC (qC (qC (qC (qC (qC trivial)))))))))))) ?steps (by rfl) ?fin;case steps=>exact qA (jN 11 9) (qA (qQ 0 36) (qA (qR 0 1 37) (qA (qP 1 37 2 38) (qA (qP 1 37 3 39) (qA (kT 1 37 4 40) (qA (qR 11 1 37) (qA (kU 1 37 6 42) (qA (kE 1 37 5 41 7 43) (qA (qP 1 37 8 44) (qA (qV 1 37 9 45) (qA (qQ 10 46) trivial)))))))))))
        case fin=>exact xF
        apply zZ3 qF [isv _,isv _,isv _,isv _,isv _,isv _,isv _,isv _,isv _,isv _,isv _,isv _] w4.heap.size w4 qJ qH.drew qF qF qF (qC (qC (qC (qC (qC (qC (qC (qC (qC (qC (qC (qC trivial)))))))))))) ?steps (by rfl) ?fin;case steps=>exact qA (jN 11 9) (qA (qQ 0 36) (qA (qR 0 1 37) (qA (qP 1 37 2 38) (qA (qP 1 37 3 39) (qA (kT 1 37 4 40) (qA (qR 11 1 37) (qA (kU 1 37 6 42) (qA (jT 1 37 5 41 7 43) (qA (qP 1 37 8 44) (qA (qV 1 37 9 45) (qA (qQ 10 46) trivial)))))))))))
        case fin=>exact xB
     obtain⟨rfl,hb5⟩:=hcut;obtain⟨w5,hw5⟩:∃ w5,w5=wc:=⟨_,rfl⟩;subst hw5;have D5:=D4.below hb5;have HV5:=qK (HV4.out.keep hb5);have HS5:=qK (HS4.out.keep hb5);clear hb5 d0 d1 d2 d3 d4 d5 d6 d7 d8 d9 d10 D4 s0 s1 s2 s3 hzs hzv;obtain⟨d0,d1,d2,d3,d4,d5,d6,d7,d8,d9,d10⟩:=zS1 HV5.out;obtain⟨s0,s1,s2,s3⟩:=zM5 HS5.out;have hzs:s < w5.heap.size:=HS5.out.lt;have hzv:v < w5.heap.size:=HV5.out.lt;rw[←HFs.out];go_upto_region 9 with fail
     apply zZ5 qF [isv _,isv _,isv _,isv _,isv _,isv _,isv _,isv _,isv _,isv _,(fun x W=>∃ g:Nat,x=.pointer (some ⟨g,0,none⟩)∧w5.heap.size≤g∧Blk W g 102 #[.int .i64 dk,.int .i64 dpr,.string ⟨dl.toArray⟩,.string ⟨da.toArray⟩,.string ⟨db.toArray⟩,.slice dAs dsubs.length dcs,.slice dAb dbody.length dcb,.slice dAt dtail.length dct,.slice dAl dlead.length dcl,.string ⟨dtr.toArray⟩,.int .i64 dpos,.pointer (some ⟨s,0,none⟩),.int .i64 file,.bool false,.bool false,.int .i64 0,.int .i64 0,.string ByteArray.empty,.int .i64 0,.string ByteArray.empty,.string ByteArray.empty,.slice none 0 0,.slice none 0 0,.slice none 0 0,.int .i64 0,.bool false])] w5.heap.size w5 qJ qH.drew qF qF qF qF qF (qC (qC (qC (qC (qC (qC (qC (qC (qC (qC (qA (fun _ _ _ ⟨g,e,h1,h2⟩ hb=>⟨g,e,h1,h2.keep hb⟩) trivial))))))))))) ?steps (by rfl) _ rfl rfl ?fin;case steps=>
      refine qA (qS 0) (qA (qQ 0 47) (qA (qQ 1 48) (qA ?_ ?_)))
      ·intro AA W KK QQ hB hs hd hl hk;obtain⟨_,sl49,rfl⟩:=hd 2 49 qF rfl;clear hs hd hl;have hx1:=hB.cell (p:=⟨s,1,none⟩) hzs;rw[s1] at hx1;go_simp;exact hk _ _ rfl qH
      refine qA (qS 11) (qA (yQ 4 51) (qA ?_ ?_))
      ·intro AA W KK QQ hB hs hd hl hk;have sl11:=hs 11 _ qF rfl;clear hs hd hl;have hx0:=hB.cell (p:=⟨v,0,none⟩) hzv;have hx1:=hB.cell (p:=⟨v,1,none⟩) hzv;have hx2:=hB.cell (p:=⟨v,2,none⟩) hzv;have hx3:=hB.cell (p:=⟨v,3,none⟩) hzv;have hx4:=hB.cell (p:=⟨v,4,none⟩) hzv;have hx5:=hB.cell (p:=⟨v,5,none⟩) hzv;have hx6:=hB.cell (p:=⟨v,6,none⟩) hzv;have hx7:=hB.cell (p:=⟨v,7,none⟩) hzv;have hx8:=hB.cell (p:=⟨v,8,none⟩) hzv;have hx9:=hB.cell (p:=⟨v,9,none⟩) hzv;have hx10:=hB.cell (p:=⟨v,10,none⟩) hzv;rw[d0] at hx0;rw[d1] at hx1;rw[d2] at hx2;rw[d3] at hx3;rw[d4] at hx4;rw[d5] at hx5;rw[d6] at hx6;rw[d7] at hx7;rw[d8] at hx8;rw[d9] at hx9;rw[d10] at hx10;go_simp;exact hk _ _ rfl qH
      refine qA (qS 2) (qA (qS 3) (qA ?_ ?_))
      ·intro AA W KK QQ hB hs hd hl hk;obtain⟨_,sl53,rfl⟩:=hd 6 53 qF rfl;obtain⟨_,sl54,rfl⟩:=hd 7 54 qF rfl;obtain⟨_,sl55,rfl⟩:=hd 8 55 qF rfl;clear hs hd hl;go_simp;exact hk _ _ rfl qH
      refine qA ?_ ?_
      ·intro AA W KK QQ hB hs hd hl hk;obtain⟨_,sl56,rfl⟩:=hd 9 56 qF rfl;clear hs hd hl;go_simp;exact hk _ _ ⟨_,rfl,hB.size,Blk.new _ _ _⟩ (qH.alloc qJ _)
      exact trivial
     case fin=>
      intro w6 hB GG hGG
      iterate 10 refine qN ?_
      refine zZ4 57 rfl ?_;rintro _ ⟨gn,rfl,hgn,hGn⟩;refine zH9 hGG ?_;have D6:=D5.below hB;obtain⟨w7,hrun,hO7,hg7⟩:=D6.hl.put Tryz.underlying118 HLL.out dl HDl.out (.pointer (some ⟨gn,0,none⟩));have hrun':(Instr.mapUpdate 118 (.map (some bL)) (.string ⟨dl.toArray⟩) (.pointer (some ⟨gn,0,none⟩))).run Tryz.prog w6=.ok () w7:=hrun;have D7:=D6.let_ (l':=l.take (k+1)) (d:=.mk dk dpr dl da db dAs dcs dsubs dAb dcb dbody dAt dct dtail dAl dcl dlead dtr dpos) HNE.out (fun b hb=>Nat.lt_of_lt_of_le (D5.hn b hb).2 hgn) (Nat.le_trans D5.hk.size hgn) hGn rfl hO7 hg7 HE4.out HE3.out;clear hrun hO7 hg7 hB;go_simp;go_wp2;go_roundw
      case rel=>exact⟨k+1,bs++ [gn],by omega,by go_num,rfl,D7⟩
      case measure=>simp[intOf];omega
   ·obtain⟨d0,d1,d2,d3,d4,d5,d6,d7,d8,d9,d10⟩:=zS1 HV4.out;have HE3:=qK (show zZ7 (l.take (k+1))=zZ7 (l.take k) from by rw[HE2.out,if_neg (by have:=beq_iff_eq.1 h1;omega),List.append_nil]);have h4:((dk:Int) == 4)=false:=by have:=beq_iff_eq.1 h1;simp only[beq_eq_false_iff_ne,ne_eq];omega
    have cI:=zW1 dl w4 HDl.out;cases hid:zY7 dl
    ·rw[hid] at cI;have HID:=qK hid;clear hid;go_wp2_with fail
     refine cI.mono ?_;rintro e w5 ⟨rfl,hb5⟩;have D5:=D4.below hb5;have D7:=D5.same (l':=l.take (k+1)) (by rw[HE1.out,if_neg (fun h=>by rw[HID.out] at h;cases h.2),List.append_nil]) HE3.out;have HV5:=qK (HV4.out.keep hb5);clear hb5 cI d0 d1 d2 d3 d4 d5 d6 d7 d8 d9 d10 D4;obtain⟨d0,d1,d2,d3,d4,d5,d6,d7,d8,d9,d10⟩:=zS1 HV5.out;go_wp2;go_roundw
     case rel=>exact⟨k+1,bs,by omega,by go_num,by rw[HE3.out],D7⟩
     case measure=>simp[intOf];omega
    ·rw[hid] at cI;have HID:=qK hid;clear hid;go_wp2_with fail
     refine cI.mono ?_;rintro e w5 ⟨rfl,hb5⟩;have D5:=D4.below hb5;have HV5:=qK (HV4.out.keep hb5);have HS5:=qK (HS4.out.keep hb5);clear hb5 cI d0 d1 d2 d3 d4 d5 d6 d7 d8 d9 d10 D4;obtain⟨d0,d1,d2,d3,d4,d5,d6,d7,d8,d9,d10⟩:=zS1 HV5.out;obtain⟨s0,s1,s2,s3⟩:=zM5 HS5.out;have hzs:s < w5.heap.size:=HS5.out.lt;have hzv:v < w5.heap.size:=HV5.out.lt;go_upto_region 6 with fail
     apply zZ5 qF [isv _,isv _,isv _,isv _,isv _,isv _] w5.heap.size w5 qJ qH.drew qF qF qF qF qF (qC (qC (qC (qC (qC (qC trivial)))))) ?steps (by rfl) _ rfl rfl ?fin;case steps=>
      refine qA (qS 0) (qA (qQ 0 27) (qA (qQ 1 28) (qA ?_ ?_)))
      ·intro AA W KK QQ hB hs hd hl hk;obtain⟨_,sl29,rfl⟩:=hd 2 29 qF rfl;clear hs hd hl;have hx0:=hB.cell (p:=⟨s,0,none⟩) hzs;rw[s0] at hx0;go_simp;exact hk _ _ rfl qH
      exact qA (qS 11) (qA (yQ 4 31) trivial)
     case fin=>
      intro wf hB GG hGG
      iterate 6 refine qN ?_
      refine zP3 hGG ?_;have D6:=D5.below hB;have HV6:=qK (HV5.out.keep hB);obtain⟨w7,hrun,hO7,hg7⟩:=D6.hf.put Tryz.underlying103 HLO.out dl HDl.out (.bool true);have hrun':(Instr.mapUpdate 103 (.map (some bF)) (.string ⟨dl.toArray⟩) (.bool true)).run Tryz.prog wf=.ok () w7:=hrun;have D7:=D6.field (l':=l.take (k+1)) HNE.out rfl hO7 hg7 (by rw[HE1.out,if_pos ⟨beq_iff_eq.1 h1,HID.out⟩]) HE3.out;have q0:=(HV6.out.grown hg7 (by simpa using fun e=>zY4 HV6.out D6.hf e)).cell 0;simp at q0;clear hrun hO7 hg7 hB;go_simp;go_wp2;go_roundw
      case rel=>exact⟨k+1,bs,by omega,by go_num,by rw[HE3.out],D7⟩
      case measure=>simp[intOf];omega
  ·obtain rfl:k=l.length:=by omega
   obtain⟨wo,hwo⟩:∃ wo,wo=wr:=⟨_,rfl⟩;subst hwo;rw[List.take_length] at Dk ⊢;have HNm:=qK (show ∀ x∈L.map (·.1)++(zZ7 l).map lblD,x.length≤maxLen from fun x hx=>by
    rcases List.mem_append.1 hx with hx | hx
    ·obtain⟨p,hp,rfl⟩:=List.mem_map.1 hx;exact HLn.out p hp
    ·obtain⟨d,hd,rfl⟩:=List.mem_map.1 hx;have hdo:=HO.out.at_ ((List.mem_filter.1 hd).1);obtain⟨dk,dpr,dl,da,db,dAs,dcs,dsubs,dAb,dcb,dbody,dAt,dct,dtail,dAl,dcl,dlead,dtr,dpos⟩:=d;exact hdo.1.1)
   have HSm:=qK (show ∀ x,(fL (L++((zZ7 l).map lblD).zip bs) x).isSome=true↔x∈L.map (·.1)++(zZ7 l).map lblD from fun x=>by
    have h:=zJ1 L ((zZ7 l).map lblD) bs (by rw[Dk.len,List.length_map]) x;unfold fL;rw[Option.isSome_map];cases hx:zU2 (L++((zZ7 l).map lblD).zip bs) x with
    | none=>
      have:=h.1 hx;simp only[Option.isSome_none,Bool.false_eq_true,false_iff];exact this
    | some q=>
      simp only[Option.isSome_some,true_iff];exact Classical.byContradiction fun hn=>by rw[h.2 hn] at hx;cases hx)
   obtain⟨G,hG⟩:∃ G,G=F++zZ9 l:=⟨_,rfl⟩;obtain⟨NM,hNM⟩:∃ NM,NM=L.map (·.1)++(zZ7 l).map lblD:=⟨_,rfl⟩;obtain⟨ok1,hok1⟩:∃ b,b=zT4 (L.map (·.1)) ((zZ7 l).map lblD):=⟨_,rfl⟩;have HFin:=qK (show okD2 F L l=(ok1&&NM.all fun x=>!decide (x∈G)) from by rw[hok1,hNM,hG];rfl);rw[←hNM] at HNm HSm;rw[←hok1];have hHF:=Dk.hf;rw[←hG] at hHF;have HHF:=qK hHF;clear hok1 hNM hG hHF;obtain⟨MP,hMP⟩:∃ MP,MP=fL (L++((zZ7 l).map lblD).zip bs):=⟨_,rfl⟩;have hHL:=Dk.hl;rw[←hMP] at HSm hHL;clear hMP;obtain⟨r,hr⟩:∃ r,r=wo.heap.size:=⟨_,rfl⟩;obtain⟨w3,cnt,hrun3,hR3,hg3,hz3,hcn⟩:=hHL.range Tryz.underlying118;rw[←hr] at hrun3 hR3;have HRr:=qK hr;clear hr;have S4:Blk wo s 122 #[.map (some bF),.map (some bL),o,.int .i64 dep]:=Dk.hk.blk HS.out (by rintro(h | h);exact HSF.out h;exact HSL.out h);obtain⟨s0,s1,s2,s3⟩:=zM5 S4;have HB3:=qK ((Below.refl wo.heap.size wo).grown hg3 qJ (by simp));have R3:=qK (ORange.congr (S':=fun x=>(MP x).isSome&& !decide (x∈([]:List Tx))) hR3 (fun a=>by simp));have HD:=qK Dk;have HS4:=qK S4;clear hR3 hg3 hHL Dk S4;go_wp2_with fail
   clear hrun3 s0 s1 s2 s3
   go_loopg [9] cnt (fun g v9 wx=>∃ V:List Tx,v9=.bool (ok1&&V.all fun x=>!decide (x∈G))∧Hid (∀ x∈V,(MP x).isSome=true)∧Hid (ORange KS wx bL r (L.length+bs.length) MP (fun x=>(MP x).isSome&& !decide (x∈V)) g)∧Hid (Below wo.heap.size wo wx))
   case atStart=>exact⟨[],by simp,qK (by simp),R3,HB3⟩
   case round=>
    obtain⟨V,rfl,HV,HR,HB⟩:=hrel;rcases HR.out.next 0 with ⟨hg0,hl0,hrun⟩ | ⟨y,u,w4,cnt',hok,hSm,hf,hrun,hR4,hlt4,hg4,hz4,hen⟩
    ·have HFN:=qK (show (ok1&&V.all fun x=>!decide (x∈G))=okD2 F L l from by
      rw[HFin.out];congr 1;rw[Bool.eq_iff_iff,List.all_eq_true,List.all_eq_true];constructor
      ·intro h x hx;refine h x ?_;have h1:=hl0 x (HNm.out x hx);rw[(HSm.out x).2 hx,Bool.true_and] at h1;simpa using h1
      ·intro h x hx;exact h x ((HSm.out x).1 (HV.out x hx)))
     clear hl0 HR HV;go_wp2;go_ret;exact⟨bs,by rw[HFN.out];rfl,HD.out.below HB.out⟩
    ·have hrun':(Instr.next (.pointer (some ⟨r,0,none⟩)) false 0).run Tryz.prog wr=.ok (.tuple #[.bool true,.string ⟨y.toArray⟩,u]) w4:=hrun;have hen':(Instr.entry (.pointer (some ⟨r,0,none⟩))).run Tryz.prog w4=.ok (.tuple #[.string ⟨y.toArray⟩,u]) w4:=hen;have HB4:=qK (HB.out.grown hg4 HB.out.size (by intro k hk;injection hk with hk;have:=HRr.out;omega));have R4:=qK (ORange.congr (S':=fun x=>(MP x).isSome&& !decide (x∈V++ [y])) hR4 (fun x=>by
      by_cases hx:x=y
      ·subst hx;simp
      ·simp[hx]))
     have HV4:=qK (show ∀ x∈V++ [y],(MP x).isSome=true from fun x hx=>by
      rcases List.mem_append.1 hx with h1 | h1
      ·exact HV.out x h1
      ·rw[List.mem_singleton.1 h1,hf];rfl)
     have hlk:(Instr.lookup 103 (.map (some bF)) (.string ⟨y.toArray⟩) false).run Tryz.prog w4=.ok ((fF G y).getD (.bool false)) w4:=(HHF.out.below HB4.out).look Tryz.underlying103 (Tryz.zeroValue4 w4) y hok;obtain⟨t0,t1,t2,t3⟩:=zM5 (HS4.out.keep HB4.out);have HVA:=qK (show ((V++ [y]).all fun x=>!decide (x∈G))=((V.all fun x=>!decide (x∈G))&& !decide (y∈G)) from by rw[List.all_append];simp);clear hrun hen hR4 hg4 hf HR HB hSm hz4 HV;generalize (V.all fun x=>!decide (x∈G))=okW at HVA ⊢;unfold fF at hlk;by_cases hy:y∈G
     ·have HFa:=qK (show (ok1&&(V++ [y]).all fun x=>!decide (x∈G))=false from by rw[HVA.out,decide_eq_true hy];simp);rw[if_pos hy] at hlk;simp only[Option.getD_some] at hlk;clear hy;cases hkk:ok1&&okW;all_goals
       go_wp2
       go_roundg cnt'
       case measure=>exact hlt4
       case rel=>exact⟨V++ [y],by rw[HFa.out],HV4,R4,HB4⟩
     ·rw[if_neg hy] at hlk;simp only[Option.getD_none] at hlk;have HFa:=qK (show (ok1&&(V++ [y]).all fun x=>!decide (x∈G))=(ok1&&okW) from by rw[HVA.out,decide_eq_false hy];simp);clear hy;cases hkk:ok1&&okW;all_goals
       have HKK:=qK hkk;clear hkk;go_wp2
       go_roundg cnt'
       case measure=>exact hlt4
       case rel=>exact⟨V++ [y],by rw[HFa.out,HKK.out],HV4,R4,HB4⟩
end Go.Proofs.YtdgehhgjgifikaaGreatDoor
