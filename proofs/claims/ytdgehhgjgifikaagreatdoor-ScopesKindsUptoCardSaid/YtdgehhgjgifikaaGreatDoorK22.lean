/- What the claim needs of:ST TG ZI ZJ ZK. -/
import Derived.Test.YtdgehhgjgifikaaGreatDoorK20
import Derived.Test.YtdgehhgjgifikaaGreatDoorK9
import Derived.Test.YtdgehhgjgifikaaGreatDoorK21
import Derived.StillTailTactics
namespace Go.Proofs.YtdgehhgjgifikaaGreatDoor
open Go.RowKit Go.Sort
section
variable {α:Type}{lt:α→α→Bool}
def zI3 (lt:α→α→Bool)(l:List α)(x:α):List α:=l.takeWhile (fun y=>!lt x y)++x ::l.dropWhile fun y=>!lt x y
def stF (lt:α→α→Bool)(l:List α):List α:=l.foldl (zI3 lt) []
def keyL (lt:α→α→Bool)(a b:α × Nat):Bool:=lt a.1 b.1
def lexP (lt:α→α→Bool)(a b:α × Nat):Prop:=lexL (keyL lt) (·.2) b a=false
theorem yR5 (hO:SWO lt):SWO (keyL lt):=⟨fun x=>hO.irrefl x.1,fun x y z=>hO.trans x.1 y.1 z.1,fun x y z=>hO.ntrans x.1 y.1 z.1⟩
theorem xW2 (L:List (α × Nat))(x:α × Nat):(zI3 (keyL lt) L x).map (·.1)=zI3 lt (L.map (·.1)) x.1:=by
 unfold zI3;rw[List.map_append,List.map_cons,List.takeWhile_map,List.dropWhile_map];rfl
theorem xW3:∀ (L acc:List (α × Nat)),(L.foldl (zI3 (keyL lt)) acc).map (·.1)=(L.map (·.1)).foldl (zI3 lt) (acc.map (·.1))
 | [],acc=>rfl
 | x ::L,acc=>by
   rw[List.foldl_cons,xW3 L,xW2];rfl
theorem yW5 (l:List α)(x:α):(zI3 lt l x).Perm (l++ [x]):=by
 unfold zI3;have h:=List.takeWhile_append_dropWhile (p:=fun y=>!lt x y) (l:=l);refine(List.perm_middle).trans ?_;rw[h];exact(List.perm_append_singleton x l).symm
theorem yR6:∀ (L acc:List α),(L.foldl (zI3 lt) acc).Perm (acc++L)
 | [],acc=>by simp
 | x ::L,acc=>by
   rw[List.foldl_cons];refine(yR6 L _).trans ?_;refine((yW5 acc x).append_right L).trans ?_;rw[List.append_assoc];exact List.Perm.refl _
theorem zO2 {p:α→Bool}:∀ (l:List α)(h:α)(r:List α),l.dropWhile p=h ::r→p h=false
 | [],h,r,e=>by simp at e
 | y ::l,h,r,e=>by
   rw[List.dropWhile_cons] at e;by_cases hy:p y=true
   ·rw[if_pos hy] at e;exact zO2 l h r e
   ·rw[if_neg hy] at e;injection e with e1 _
    subst e1;simpa using hy
theorem zR7 {p:α→Bool}:∀ (l:List α)(a:α),a∈l.takeWhile p→p a=true
 | [],a,h=>by simp at h
 | y ::l,a,h=>by
   rw[List.takeWhile_cons] at h;by_cases hy:p y=true
   ·rw[if_pos hy] at h;rcases List.mem_cons.1 h with rfl | h
    ·exact hy
    ·exact zR7 l a h
   ·rw[if_neg hy] at h;cases h
theorem yN9 (hO:SWO lt){L:List (α × Nat)}{x:α × Nat}(hs:L.Pairwise (lexP lt))(hi:∀ y∈L,y.2 < x.2):(zI3 (keyL lt) L x).Pairwise (lexP lt):=by
 unfold zI3;have hL:=List.takeWhile_append_dropWhile (p:=fun y=>!keyL lt x y) (l:=L);have hsub:∀ a∈L.takeWhile (fun y=>!keyL lt x y),a∈L:=fun a ha=>by rw[←hL];exact List.mem_append_left _ ha
 rw[←hL,List.pairwise_append] at hs;have htop:∀ b∈L.dropWhile (fun y=>!keyL lt x y),keyL lt x b=true:=by
  intro b hb;cases hd:L.dropWhile (fun y=>!keyL lt x y) with
  | nil=>rw[hd] at hb;cases hb
  | cons h r=>
    have h0:keyL lt x h=true:=by
     have:=zO2 _ _ _ hd;simpa using this
    rw[hd] at hb hs;rcases List.mem_cons.1 hb with rfl | hb
    ·exact h0
    ·have h1:=(List.pairwise_cons.1 hs.2.1).1 b hb;have h2:=((zS3 _ _).1 h1).1;cases h3:keyL lt x b with
     | true=>rfl
     | false=>
       have:=(yR5 hO).ntrans _ _ _ h3 h2;rw[h0] at this;cases this
 rw[List.pairwise_append];refine⟨hs.1,List.pairwise_cons.2 ⟨fun b hb=>?_,hs.2.1⟩,fun a ha b hb=>?_⟩
 ·have h1:=htop b hb;refine(zS3 _ _).2 ⟨?_,.inl h1⟩;cases h2:keyL lt b x with
  | false=>rfl
  | true=>
    have:=(yR5 hO).trans _ _ _ h1 h2;rw[(yR5 hO).irrefl] at this;cases this
 ·rcases List.mem_cons.1 hb with rfl | hb
  ·have h1:=zR7 _ _ ha;have h2:=hi a (hsub a ha);exact(zS3 _ _).2 ⟨by simpa using h1,.inr qG⟩
  ·exact hs.2.2 a ha b hb
theorem yW6 (hO:SWO lt):∀ (l:List α)(k:Nat)(acc:List (α × Nat)),acc.Pairwise (lexP lt)→(∀ y∈acc,y.2 < k)→((l.zipIdx k).foldl (zI3 (keyL lt)) acc).Pairwise (lexP lt)
 | [],k,acc,h,_=>h
 | x ::l,k,acc,h,hk=>by
   rw[List.zipIdx_cons,List.foldl_cons];refine yW6 hO l (k+1) _ (yN9 hO h hk) fun y hy=>?_;rcases List.mem_append.1 ((yW5 acc (x,k)).mem_iff.1 hy) with hy | hy
   ·have:=hk y hy;omega
   ·rw[List.mem_singleton.1 hy];exact Nat.lt_succ_self k
theorem yR7 (hO:SWO lt){l:List α}{D:List (α × Nat)}(hp:D.Perm l.zipIdx)(hs:D.Pairwise (lexP lt)):D.map (·.1)=stF lt l:=by
 have hG:=yW6 hO l 0 [] List.Pairwise.nil (fun y hy=>by cases hy);have hGp:(l.zipIdx.foldl (zI3 (keyL lt)) []).Perm l.zipIdx:=by simpa using yR6 (lt:=keyL lt) l.zipIdx []
 have he:D=l.zipIdx.foldl (zI3 (keyL lt)) []:=by
  refine List.Perm.eq_of_pairwise (le:=lexP lt) (fun a b ha hb h1 h2=>?_) hs hG (hp.trans hGp.symm);have h1':=(zS3 _ _).1 h1;have h2':=(zS3 _ _).1 h2;have e:a.2=b.2:=by
   rcases h1'.2 with h3 | h3
   ·rw[h2'.1] at h3;cases h3
   ·rcases h2'.2 with h4 | h4
    ·rw[h1'.1] at h4;cases h4
    ·omega
  have ma:=List.mem_zipIdx_iff_getElem?.1 (hp.mem_iff.1 ha);have mb:=List.mem_zipIdx_iff_getElem?.1 (hGp.mem_iff.1 hb);rw[e] at ma;rw[ma] at mb;injection mb with mb
  exact Prod.ext mb e
 rw[he,xW3];simp[stF]
end
abbrev Shp:=List (List Tx × List Tx)
def zE2 (l:List D):List Tx:=l.filterMap fun d=>if d.k=4 then some d.l else none
def shpOf (l:List D):List Tx × List Tx:=(zH8 l,zE2 l)
def zK7 (s:Tx):Shp→Int × Int
 | []=>(0,0)
 | x ::r=>if s∈x.2 then(2,(r.length:Int)) else if s∈x.1 then(1,(r.length:Int)) else zK7 s r
def resK (im:List Tx)(env:Shp)(lp:List Tx)(s:Tx):Int × Int:=
 if s∈lp then(3,0) else if (zK7 s env).1=0 then(if s∈im then(4,0) else(0,0)) else zK7 s env
def useK (im:List (List Tx))(env:Shp)(lp:List Tx)(file:Nat)(s:Tx)(pos:Int):Us:=⟨file,pos,s,(resK (im.getD file []) env lp s).1,(resK (im.getD file []) env lp s).2⟩
mutual
def uE (im:List (List Tx)):E→Shp→List Tx→Nat→List Us
 | .mk k t _ a b subs decls _ pos,env,lp,file=>
   if k=10 then[useK im env lp file t pos]
   else uEs im (if k=15 then[a,b] else[]) 0 subs env lp file++uDs im decls (if k=13 then shpOf decls ::env else env) (if k=13 then[] else lp) file
def uEs (im:List (List Tx))(nm:List Tx):Nat→List E→Shp→List Tx→Nat→List Us
 | _,[],_,_,_=>[]
 | i,e ::r,env,lp,file=>uE im e env (lp++if i=0 then[] else nm) file++uEs im nm (i+1) r env lp file
def uDs (im:List (List Tx)):List D→Shp→List Tx→Nat→List Us
 | [],_,_,_=>[]
 | d ::r,env,lp,file=>uD im d env lp file++uDs im r env lp file
def uD (im:List (List Tx)):D→Shp→List Tx→Nat→List Us
 | .mk k _ _ a b subs body _ _ _ _,env,lp,file=>uEs im [] 0 subs env lp file++uDs im body env (lp++if k=6 then[a,b] else[]) file
end
mutual
def tE:E→Bool
 | .mk k _ _ _ _ subs decls _ _=>(if k=10 then false else tEs subs)||(decide (k=13)&&(dupB (zE2 decls)||(zE2 decls).any fun x=>decide (x∈zH8 decls)))||(if k=10 then false else tDs decls)
def tEs:List E→Bool
 | []=>false
 | e ::r=>tE e||tEs r
def tD:D→Bool
 | .mk _ _ _ _ _ subs body _ _ _ _=>tEs subs||tDs body
def tDs:List D→Bool
 | []=>false
 | d ::r=>tD d||tDs r
end
def zY5 (fs:List Fl):List Tx × List Tx:=(fs.flatMap fun f=>zH8 f.decls,fs.flatMap fun f=>zE2 f.decls)
def yG3 (fs:List Fl):Bool:=(fs.any fun f=>dupB (f.imps.map (·.name)))||dupB (zY5 fs).2||((zY5 fs).2.any fun x=>decide (x∈(zY5 fs).1))||fs.any fun f=>tDs f.decls
def zM7 (fs:List Fl):List (List Tx):=fs.map fun f=>f.imps.map (·.name)
def stU (l:List Us):List Us:=l.foldl (fun l x=>l.takeWhile (fun y=>decide (y.pos≤x.pos))++x ::l.dropWhile fun y=>decide (y.pos≤x.pos)) []
def usFs (fs:List Fl):Nat→List Fl→List Us
 | _,[]=>[]
 | i,f ::r=>stU (uDs (zM7 fs) f.decls [zY5 fs] [] i)++usFs fs (i+1) r
def errP (rx:Tx→Bool)(p:Pk):Int:=
 match p.files.find? fun f=>decide (errF rx f≠0) with
 | some f=>errF rx f
 | none=>if p.files.any fun f=>decide (f.pkg≠(p.files.headD ⟨[],[],[],[]⟩).pkg) then 5 else if yG3 p.files then 6 else 0
def zT0 (rx:Tx→Bool)(p:Pk):List Us × Int:=if errP rx p≠0 then([],errP rx p) else(usFs p.files 0 p.files,0)
def zD0 (rx:Tx→Bool)(p:Pk):List Us × Int:=((zT0 rx p).1.filter fun u=>decide (u.kind=0),(zT0 rx p).2)
def shA (x:ScA):List Tx × List Tx:=(x.fields,x.lets.map (·.1))
theorem zN8 {l:List (Tx × Nat)}{s:Tx}:(∃ b,zU2 l s=some b)↔s∈l.map (·.1):=by
 constructor
 ·rintro⟨b,hb⟩;exact List.mem_map.2 ⟨(s,b),zS9 hb,rfl⟩
 ·intro h;obtain⟨p,hp,rfl⟩:=List.mem_map.1 h;cases hl:zU2 l p.1 with
  | some b=>exact⟨b,rfl⟩
  | none=>exact absurd hp (zF5.1 hl p.2)
theorem zA1 (s:Tx):∀ env:List ScA,zK7 s (env.map shA)=((zQ0 s env).1,(zQ0 s env).2.1)
 | []=>rfl
 | x ::r=>by
   have ih:=zA1 s r;rw[List.map_cons,zK7,zQ0];simp only[List.length_map];cases hl:zU2 x.lets s with
   | some b=>
     rw[if_pos (show s∈(shA x).2 from zN8.1 ⟨b,hl⟩)]
   | none=>
     rw[if_neg (show ¬ s∈(shA x).2 from fun h=>by
      obtain⟨b,hb⟩:=zN8.2 h;rw[hl] at hb;cases hb)]
     by_cases hf:s∈x.fields
     ·rw[if_pos (show s∈(shA x).1 from hf)];simp only[if_pos hf]
     ·rw[if_neg (show ¬ s∈(shA x).1 from hf),ih];simp only[if_neg hf]
theorem yJ3 (imps:List (List Tx))(env:List ScA)(lp:List Tx)(file:Nat)(s:Tx):resK (imps.getD file []) (env.map shA) lp s=((zW4 imps env lp file s).1,(zW4 imps env lp file s).2.1):=by
 unfold resK zW4;rw[zA1];by_cases hl:s∈lp
 ·rw[if_pos hl,if_pos hl]
 ·rw[if_neg hl,if_neg hl];by_cases h0:(zQ0 s env).1=0
  ·simp only[h0,if_true];by_cases hi:s∈imps.getD file []
   ·rw[if_pos hi,if_pos hi]
   ·rw[if_neg hi,if_neg hi]
  ·simp only[if_neg h0]
theorem zE3 (l:List DA):zE2 (plDs l)=(zZ7 l).map lblD:=by
 unfold zE2 zZ7;rw[zX3];induction l with
 | nil=>rfl
 | cons d l ih=>
   rw[List.map_cons,List.filterMap_cons,List.filter_cons];by_cases hd:(plD d).k=4
   ·simp only[if_pos hd];rw[if_pos (show yY1 d=true from decide_eq_true hd),List.map_cons,ih];rfl
   ·simp only[if_neg hd];rw[if_neg (show ¬ yY1 d=true from by unfold yY1;rw[decide_eq_false hd];decide),ih]
theorem yM0 {X:Type}{decls:List DA}{file:Nat}{env env':List ScA}{σ σ':GS X}(h:Dcl decls file env σ σ' env'):env'.map shA=shpOf (plDs decls) ::env.map shA∧σ'.x=σ.x∧σ'.ρ.twice=(!okD2 [] [] decls||σ.ρ.twice):=by
 obtain⟨sB,bF,bL,bs,gs,av,hlen,_,rfl,_,rfl⟩:=h;refine⟨?_,rfl,rfl⟩;rw[List.map_cons];congr 1;unfold shA scOf shpOf;simp only;rw[List.map_fst_zip (by rw[List.length_map];omega),zE3];rfl
theorem yJ4 (file:Nat)(s:Tx)(x:Int × Int × Option Nat)(r:RS):(zV3 file s x r).twice=r.twice:=by
 unfold zV3;split
 ·rfl
 ·split <;> rfl
theorem visU (R:RF)(bx:Nat):(∀ e,∀ env lp file σ σ' e',VisE R (UU bx) e env lp file σ σ' e'→σ'.x.2=σ.x.2++uE R.imps (plE e) (env.map shA) lp file)∧(∀ d,∀ env lp file σ σ' d',VisD R (UU bx) d env lp file σ σ' d'→σ'.x.2=σ.x.2++uD R.imps (plD d) (env.map shA) lp file)∧
  (∀ l,∀ i nm env lp file σ σ' l',zW9 R (UU bx) l i nm env lp file σ σ' l'→σ'.x.2=σ.x.2++uEs R.imps nm i (plEs l) (env.map shA) lp file)∧∀ l,∀ env lp file σ σ' l',zX6 R (UU bx) l env lp file σ σ' l'→σ'.x.2=σ.x.2++uDs R.imps (plDs l) (env.map shA) lp file:=
 zY9 (fun k t m a b As cs subs Ad cd decls At ct tail pos h1 h2 env lp file σ σ' e' h=>by
   rw[VisE] at h;rw[plE,uE];rcases h with ⟨rfl,_,v',rfl⟩ | ⟨hk,σ1,subs',σ2,env2,decls',As',cs',Ad',cd',At',ct',hs,hd,hds,_⟩
   ·rw[if_pos rfl];show σ.x.2++ [yN5 t pos _ file]=_;unfold useK yN5;rw[yJ3]
   ·rw[if_neg hk];have e1:=h1 _ _ _ _ _ _ _ _ hs;have e2:=h2 _ _ _ _ _ _ hds;rw[e2];rcases hd with ⟨rfl,hd⟩ | ⟨hk3,rfl,rfl⟩
    ·obtain⟨q1,q2,_⟩:=yM0 hd;rw[q2,e1,q1,if_pos rfl,if_pos rfl,List.append_assoc]
    ·rw[e1,if_neg hk3,if_neg hk3,List.append_assoc])
  (fun k p l a b As cs subs Ab cb body At ct tail Al cl lead tr pos h1 h2 env lp file σ σ' d' h=>by
   rw[VisD] at h;rw[plD,uD];obtain⟨σ1,subs',body',As',cs',Ab',cb',At',ct',Al',cl',hs,hb,_⟩:=h;rw[h2 _ _ _ _ _ _ hb,h1 _ _ _ _ _ _ _ _ hs,List.append_assoc])
  (fun i nm env lp file σ σ' l' h=>by
   rw[zW9] at h;obtain⟨rfl,_⟩:=h;rw[plEs,uEs,List.append_nil])
  (fun e l h1 h2 i nm env lp file σ σ' l' h=>by
   rw[zW9] at h;obtain⟨σ1,e1,r1,he,hl,_⟩:=h;rw[plEs,uEs,h2 _ _ _ _ _ _ _ _ hl,h1 _ _ _ _ _ _ he,List.append_assoc])
  (fun env lp file σ σ' l' h=>by
   rw[zX6] at h;obtain⟨rfl,_⟩:=h;rw[plDs,uDs,List.append_nil])
  (fun d l h1 h2 env lp file σ σ' l' h=>by
   rw[zX6] at h;obtain⟨σ1,d1,r1,hd,hl,_⟩:=h;rw[plDs,uDs,h2 _ _ _ _ _ _ hl,h1 _ _ _ _ _ _ hd,List.append_assoc])
theorem zN9:∀ (l seen:List Tx),zT4 seen l=(!dupB l&&l.all fun x=>!decide (x∈seen))
 | [],seen=>by simp[zT4,dupB]
 | x ::l,seen=>by
   rw[zT4,zN9 l (seen++ [x]),dupB,List.all_cons];have e:(l.all fun y=>!decide (y∈seen++ [x]))=((l.all fun y=>!decide (y∈seen))&& !decide (x∈l)):=by
    rw[Bool.eq_iff_iff];simp only[List.all_eq_true,Bool.not_eq_true',decide_eq_false_iff_not,List.mem_append,List.mem_singleton,Bool.and_eq_true];constructor
    ·intro h;exact⟨fun y hy hs=>h y hy (.inl hs),fun hx=>h x hx (.inr rfl)⟩
    ·rintro⟨h1,h2⟩ y hy (h3 | rfl)
     ·exact h1 y hy h3
     ·exact h2 hy
   rw[e];cases decide (x∈seen) <;> cases dupB l <;> cases decide (x∈l) <;> cases (l.all fun y=>!decide (y∈seen)) <;> rfl
theorem yB2 (decls:List DA):(!okD2 [] [] decls)=(dupB (zE2 (plDs decls))||(zE2 (plDs decls)).any fun x=>decide (x∈zH8 (plDs decls))):=by
 rw[yS3,okN,List.map_nil,zN9,zE3];have e1:(((zZ7 decls).map lblD).all fun x=>!decide (x∈([]:List Tx)))=true:=by simp
 rw[e1,Bool.and_true,List.nil_append,List.nil_append];have e2:(((zZ7 decls).map lblD).all fun x=>!decide (x∈zZ9 decls))= !((zZ7 decls).map lblD).any fun x=>decide (x∈zH8 (plDs decls)):=by
  rw[List.not_any_eq_all_not];rfl
 rw[e2,Bool.not_and,Bool.not_not,Bool.not_not]
theorem visT (R:RF):(∀ e,∀ env lp file (σ σ':GS Unit) e',VisE R U0 e env lp file σ σ' e'→σ'.ρ.twice=(σ.ρ.twice||tE (plE e)))∧(∀ d,∀ env lp file (σ σ':GS Unit) d',VisD R U0 d env lp file σ σ' d'→σ'.ρ.twice=(σ.ρ.twice||tD (plD d)))∧
  (∀ l,∀ i nm env lp file (σ σ':GS Unit) l',zW9 R U0 l i nm env lp file σ σ' l'→σ'.ρ.twice=(σ.ρ.twice||tEs (plEs l)))∧∀ l,∀ env lp file (σ σ':GS Unit) l',zX6 R U0 l env lp file σ σ' l'→σ'.ρ.twice=(σ.ρ.twice||tDs (plDs l)):=
 zY9 (fun k t m a b As cs subs Ad cd decls At ct tail pos h1 h2 env lp file σ σ' e' h=>by
   rw[VisE] at h;rw[plE,tE];rcases h with ⟨rfl,rfl,_⟩ | ⟨hk,σ1,subs',σ2,env2,decls',As',cs',Ad',cd',At',ct',hs,hd,hds,_⟩
   ·show (zV3 file t _ σ.ρ).twice=_;rw[yJ4];simp
   ·rw[if_neg hk,if_neg hk,h2 _ _ _ _ _ _ hds];rcases hd with ⟨rfl,hd⟩ | ⟨hk3,rfl,rfl⟩
    ·obtain⟨_,_,q3⟩:=yM0 hd;rw[q3,h1 _ _ _ _ _ _ _ _ hs,yB2];simp only[decide_true,Bool.true_and];generalize (dupB (zE2 (plDs decls))||(zE2 (plDs decls)).any fun x=>decide (x∈zH8 (plDs decls)))=q;cases q <;> cases σ.ρ.twice <;> cases tEs (plEs subs) <;> rfl
    ·rw[h1 _ _ _ _ _ _ _ _ hs,decide_eq_false hk3,Bool.false_and,Bool.or_false,Bool.or_assoc])
  (fun k p l a b As cs subs Ab cb body At ct tail Al cl lead tr pos h1 h2 env lp file σ σ' d' h=>by
   rw[VisD] at h;rw[plD,tD];obtain⟨σ1,subs',body',As',cs',Ab',cb',At',ct',Al',cl',hs,hb,_⟩:=h;rw[h2 _ _ _ _ _ _ hb,h1 _ _ _ _ _ _ _ _ hs,Bool.or_assoc])
  (fun i nm env lp file σ σ' l' h=>by
   rw[zW9] at h;obtain⟨rfl,_⟩:=h;rw[plEs,tEs,Bool.or_false])
  (fun e l h1 h2 i nm env lp file σ σ' l' h=>by
   rw[zW9] at h;obtain⟨σ1,e1,r1,he,hl,_⟩:=h;rw[plEs,tEs,h2 _ _ _ _ _ _ _ _ hl,h1 _ _ _ _ _ _ he,Bool.or_assoc])
  (fun env lp file σ σ' l' h=>by
   rw[zX6] at h;obtain⟨rfl,_⟩:=h;rw[plDs,tDs,Bool.or_false])
  (fun d l h1 h2 env lp file σ σ' l' h=>by
   rw[zX6] at h;obtain⟨σ1,d1,r1,hd,hl,_⟩:=h;rw[plDs,tDs,h2 _ _ _ _ _ _ hl,h1 _ _ _ _ _ _ hd,Bool.or_assoc])
theorem visFsT {R:RF}{env:List ScA}:∀ {fs:List FA}{i:Nat}{σ σ':GS Unit}{rs:List (List DA)},zO6 R U0 env i fs σ σ' rs→σ'.ρ.twice=(σ.ρ.twice||(fs.map plF).any fun f=>tDs f.decls)
 | [],i,σ,σ',rs,⟨h,_⟩=>by subst h;simp
 | f ::fs,i,σ,σ',rs,⟨σ1,d1,r1,h1,h2,_⟩=>by
   rw[visFsT h2,(visT R).2.2.2 _ _ _ _ _ _ _ h1,List.map_cons,List.any_cons,Bool.or_assoc];rfl
theorem zO7:∀ (l:List Tx),dupB l=false↔l.Nodup
 | []=>by simp[dupB]
 | x ::l=>by rw[dupB,Bool.or_eq_false_iff,zO7 l,List.nodup_cons,decide_eq_false_iff_not]
theorem yM1 (fs:List FA):∀ i,i≤fs.length→(twF fs i=false↔(∀ f∈fs.take i,dupB (f.imps.map (·.name))=false)∧dupB (zZ8 (fs.take i))=false∧(zZ8 (fs.take i)).any (fun x=>decide (x∈zV0 (fs.take i)))=false)
 | 0,_=>by simp[twF,zZ8,zG3,dupB]
 | i+1,hi=>by
   have hi':i < fs.length:=by omega
   have ih:=yM1 fs i qG;have ed:(fs.map (·.decls)).getD i []=fs[i].decls:=by
    rw[List.getD_eq_getElem?_getD,List.getElem?_map,List.getElem?_eq_getElem hi'];rfl
   rw[twF,ed,zB4 (List.getElem?_eq_getElem hi'),zB3 hi',yW1 hi',okN,zN9,zN9,List.take_succ_eq_append_getElem hi'];have e0:(((fs[i].imps.map (·.name)).all fun x=>!decide (x∈([]:List Tx))))=true:=by simp
   rw[e0,Bool.and_true,Bool.not_not];generalize (zZ7 fs[i].decls).map lblD=nw;generalize zZ9 fs[i].decls=nf;generalize zZ8 (fs.take i)=N at ih;generalize zV0 (fs.take i)=F at ih;have hall:(∀ f∈fs.take i++ [fs[i]],dupB (f.imps.map (·.name))=false)↔(∀ f∈fs.take i,dupB (f.imps.map (·.name))=false)∧dupB (fs[i].imps.map (·.name))=false:=by
    simp only[List.mem_append,List.mem_singleton];exact⟨fun h=>⟨fun f hf=>h f (.inl hf),h _ (.inr rfl)⟩,fun⟨h1,h2⟩ f hf=>hf.elim (h1 f) fun e=>e▸h2⟩
   rw[hall,Bool.or_eq_false_iff,Bool.or_eq_false_iff,Bool.not_eq_false',Bool.and_eq_true,Bool.and_eq_true,Bool.not_eq_true',ih,zO7 nw,zO7 N,zO7 (fs[i].imps.map (·.name)),zO7 (N++nw),List.nodup_append];have hA:((N++nw).all fun x=>!decide (x∈F++nf))=true↔(N++nw).any (fun x=>decide (x∈F++nf))=false:=by
    simp only[List.all_eq_true,List.any_eq_false,Bool.not_eq_true',decide_eq_false_iff_not,decide_eq_true_eq]
   have hB:(nw.all fun x=>!decide (x∈N))=true↔∀ x∈nw,x∉N:=by
    simp only[List.all_eq_true,Bool.not_eq_true',decide_eq_false_iff_not]
   rw[hA,hB];constructor
   ·rintro⟨⟨⟨h1,h2⟩,h3⟩,⟨h4,h5,h6⟩,h7⟩;exact⟨⟨h4,h7⟩,⟨h5,h1,fun x hx y hy e=>h2 y hy (e▸hx)⟩,h3⟩
   ·rintro⟨⟨h4,h7⟩,⟨h5,h1,h2⟩,h3⟩;refine⟨⟨⟨h1,fun x hx hn=>h2 x hn x hx rfl⟩,h3⟩,⟨h4,h5,?_⟩,h7⟩;simp only[List.any_eq_false,decide_eq_true_eq,List.mem_append] at h3 ⊢;exact fun x hx hf=>h3 x (.inl hx) (.inl hf)
theorem zE4 (fs:List FA):zY5 (fs.map plF)=(zV0 fs,zZ8 fs):=by
 unfold zY5 zV0 zZ8 zG3;rw[List.flatMap_map,List.flatMap_map,List.map_flatMap];have e:(fun f:FA=>zE2 (plF f).decls)=fun f=>(zZ7 f.decls).map lblD:=funext fun f=>zE3 f.decls;rw[e];rfl
theorem yB3 (fs:List FA):twF fs fs.length=((fs.map plF).any (fun f=>dupB (f.imps.map (·.name)))||dupB (zY5 (fs.map plF)).2||(zY5 (fs.map plF)).2.any fun x=>decide (x∈(zY5 (fs.map plF)).1)):=by
 have h:=yM1 fs fs.length qJ;rw[List.take_length] at h;rw[zE4];have e:(fs.map plF).any (fun f=>dupB (f.imps.map (·.name)))=fs.any fun f=>dupB (f.imps.map (·.name)):=by
  rw[List.any_map];rfl
 rw[e];cases ht:twF fs fs.length with
 | false=>
   obtain⟨h1,h2,h3⟩:=h.1 ht;simp only;rw[h2,h3];have:fs.any (fun f=>dupB (f.imps.map (·.name)))=false:=by
    rw[List.any_eq_false];intro f hf;rw[h1 f hf];decide
   rw[this];rfl
 | true=>
   symm;cases h1:fs.any (fun f=>dupB (f.imps.map (·.name))) with
   | true=>rfl
   | false=>
     simp only;cases h2:dupB (zZ8 fs) with
     | true=>rfl
     | false=>
       cases h3:(zZ8 fs).any (fun x=>decide (x∈zV0 fs)) with
       | true=>rfl
       | false=>
         have:=h.2 ⟨fun f hf=>by
          rw[List.any_eq_false] at h1;simpa using h1 f hf,h2,h3⟩
         rw[ht] at this;cases this
theorem zP5 {p:PA}{R:RF}{σ0 σ:GS Unit}{env:List ScA}{rs:List (List DA)}(hR:Root p R σ0 env)(hV:zO6 R U0 env 0 p.files σ0 σ rs):σ.ρ.twice=yG3 (plP p).files:=by
 rw[visFsT hV,hR.tw,yB3];unfold yG3 plP;rfl
open Go.Shelf
theorem yR8 (a:Int)(w:World):Calls Tryz.prog 78 #[.int .i64 a] w fun e w'=>e=.returned (.bool false)∧w'=w:=by
 go_enter Tryz.func78,Tryz.ntmps78
 go_wp2;go_ret;exact⟨rfl,rfl⟩
def cmpI (a b:Int):Int:=if a < b then -1 else if b < a then 1 else 0
theorem cmpN_any (a b:Int)(w:World):Calls Tryz.prog 44 #[.int .i64 a,.int .i64 b] w fun e w'=>e=.returned (.int .i64 (cmpI a b))∧w'=w:=by
 unfold cmpI;by_cases h1:a < b
 ·rw[if_pos h1];go_enter Tryz.func44,Tryz.ntmps44
  go_wp2_with (go_at_call 78;refine(yR8 _ _).mono ?_;rintro e w' ⟨rfl,rfl⟩)
  go_ret;exact⟨rfl,rfl⟩
 ·rw[if_neg h1];by_cases h2:b < a
  ·rw[if_pos h2];go_enter Tryz.func44,Tryz.ntmps44
   go_wp2_with (go_at_call 78;refine(yR8 _ _).mono ?_;rintro e w' ⟨rfl,rfl⟩)
   go_ret;exact⟨rfl,rfl⟩
  ·rw[if_neg h2];go_enter Tryz.func44,Tryz.ntmps44
   go_wp2_with (go_at_call 78;refine(yR8 _ _).mono ?_;rintro e w' ⟨rfl,rfl⟩)
   go_ret;exact⟨rfl,rfl⟩
theorem ucmp_eq (x y:Us):ucmp x y=cmpI x.pos y.pos:=rfl
set_option maxRecDepth 100000 in
theorem cmpU_any (x y:Us)(w:World):Calls Tryz.prog 43 #[.agg (encU x).toArray,.agg (encU y).toArray] w fun e w'=>e=.returned (.int .i64 (ucmp x y))∧BelowD w.heap.size w w':=by
 have hb:=(((BelowD.refl w.heap.size w).alloc qJ (.cells (encU x).toArray 52)).alloc (by simp) (.cells (encU y).toArray 52));have HB:=qK hb;have V1:=(Blk.new w 52 (encU x).toArray).alloc (.cells (encU y).toArray 52);have V2:=Blk.new (w.alloc (.cells (encU x).toArray 52)) 52 (encU y).toArray;rw[World.size_alloc] at V2;rw[ucmp_eq];obtain⟨f1,p1,n1,k1,d1⟩:=x;obtain⟨f2,p2,n2,k2,d2⟩:=y;dsimp only[encU] at V1 V2 HB ⊢;have v1:=V1.cell 1;have v2:=V2.cell 1;clear V1 V2 hb;go_enter Tryz.func43,Tryz.ntmps43
 go_upto_region 1 with fail
 go_wp2_with (go_at_call 44;refine(cmpN_any _ _ _).mono ?_;rintro e w' ⟨rfl,rfl⟩)
 go_ret;exact⟨rfl,HB.out⟩
theorem stU_eq (l:List Us):stU l=stF (ltOf ucmp) l:=by
 unfold stU stF zI3;have e:∀ (x:Us),(fun y:Us=>!ltOf ucmp x y)=fun y=>decide (y.pos≤x.pos):=fun x=>funext fun y=>by
  rw[yS8,Bool.eq_iff_iff];simp
 simp only[e]
theorem yR9 {α:Type} [Inhabited α] {enc:α→List Value}{k:Nat}{w:World}{blk off m:Nat}{dk:Array α}{os:Array Obj}(_h2:blk < w.heap.size):Kp (· = blk) w (sortWorldK enc k w blk off m dk os):=by
 refine⟨rfl,rfl,rfl,size_sortWorldK_c enc k w blk off m dk os,fun i hi hn=>?_⟩;unfold sortWorldK;rw[heap_grow_old _ _ (by rw[size_putRowK];show i < w.heap.size;omega)];unfold putRowK putRow mapBlock;simp only[Array.getElem?_modify];rw[if_neg (fun e=>hn e.symm)];rfl
theorem xW4 (A:Option Addr)(c:Nat)(f:Value)(w:World):Calls Tryz.prog 114 #[.slice A 0 c,.int .i64 0,.int .i64 0,f] w fun e w'=>e=.returned (.tuple #[])∧w'=w:=by
 go_enter Tryz.func114,Tryz.ntmps114
 go_wp2;go_loopw [8] (fun i wr=>i=.int .i64 1∧wr=w) (fun _ _=>0)
 case atStart=>exact⟨rfl,rfl⟩
 case round=>exact xW
set_option maxRecDepth 100000 in
theorem yM2 (A:Option Addr)(c:Nat)(f:Value)(w:World):Calls Tryz.prog 77 #[.slice A 0 c,.int .i64 0,f] w fun e w'=>e=.returned (.tuple #[])∧w'=w:=by
 have cI:=qK (xW4 A c f w);go_enter Tryz.func77,Tryz.ntmps77
 go_wp2;go_loopw [7,8] (fun a b wr=>a=.int .i64 0∧b=.int .i64 20∧wr=w) (fun _ _ _=>0)
 case atStart=>exact⟨rfl,rfl,rfl⟩
 case round=>
  obtain⟨rfl,rfl,rfl⟩:=hrel;go_wp2_with fail
  refine cI.out.mono ?_;rintro e w2 ⟨rfl,rfl⟩;clear cI;go_wp2;go_loopw [6] (fun b wq=>b=.int .i64 20∧wq=w2) (fun _ _=>0)
  case atStart=>exact⟨rfl,rfl⟩
  case round=>exact xW
def RetSU (w:World)(v:Value)(l:List Us)(e:Ending)(w':World):Prop:=
 e=.returned (.tuple #[])∧(∃ A c,v=.slice A l.length c∧Sl w' w'.heap.size 5 encU A (stU l))∧Kp (fun b=>v.ownBlock=some b) w w'
theorem yJ5 {w:World}{v:Value}{l:List Us}(h:w.ownsRow 0 52 5 v l.length (l.flatMap encU))(hv:v≠.slice none 0 0):∃ g cap,v=.slice (some ⟨g,0,none⟩) l.length cap∧g < w.heap.size∧HoldsK encG 5 w g 0 l.zipIdx.toArray:=by
 have e:l.zipIdx.flatMap encG=l.flatMap encU:=by
  have:l.zipIdx.flatMap encG=(l.zipIdx.map (·.1)).flatMap encU:=by
   rw[List.flatMap_map];rfl
  rw[this];simp
 have h2:w.ownsRow 0 52 5 v l.zipIdx.length (l.zipIdx.flatMap encG):=by rw[e,List.length_zipIdx];exact h
 obtain⟨g,cap,h3,_,h4,h5⟩:=yY2 yS9 h2 hv;rw[List.length_zipIdx] at h3;exact⟨g,cap,h3,h4,h5⟩
set_option maxRecDepth 100000 in
theorem yJ6 (v:Value)(l:List Us)(w:World)(h:w.ownsRow 0 52 5 v l.length (l.flatMap encU))(hl:l.length≤1048576) :
  Calls Tryz.prog 77 #[v,.int .i64 (l.length:Nat),.func (.func 43) #[] #[]] w (RetSU w v l):=by
 by_cases hv:v=.slice none 0 0
 ·subst hv;have hl0:l=[]:=by
   rcases h.2 with ⟨_,h0⟩ | ⟨g,cap,cur,h,_⟩
   ·exact List.eq_nil_of_length_eq_zero h0
   ·cases h
  subst hl0;refine(yM2 none 0 _ w).mono ?_;rintro e w' ⟨rfl,rfl⟩;exact⟨rfl,⟨none,0,rfl,.inl rfl⟩,Kp.refl _ _⟩
 ·obtain⟨g,cap,rfl,hlt,hH⟩:=yJ5 h hv;have hq:=yJ2 43 Tryz.call43 (fun x y W=>cmpU_any x.1 y.1 W) g 0 cap l.zipIdx.toArray w ⟨yS9,xX9,hH,hlt⟩ (by simpa using hl) (fun z z' h1 h2=>by
   have h2':z' < l.length:=by simpa using h2
   rw[getElem!_pos _ z (by simp;omega),getElem!_pos _ z' (by simp;omega)];simp[ixG];exact h1)
  have hs:l.zipIdx.toArray.size=l.length:=by simp
  rw[hs] at hq;refine hq.mono ?_;rintro e w' ⟨rfl,d',hsz,hsr,hp,n,os,rfl⟩;have hperm:d'.toList.Perm l.zipIdx:=yY3 (by simpa using hp);have hpw:d'.toList.Pairwise (lexP (ltOf ucmp)):=by
   have:=zK6 hsr hsz;exact this
  have hst:=yR7 ult_swo hperm hpw;refine⟨rfl,⟨_,cap,rfl,?_⟩,(yR9 hlt).mono fun i hi=>by subst hi;rfl⟩;rw[stU_eq,←hst];have hsl:Sl (sortWorldK encG 5 w g 0 n d' os) (sortWorldK encG 5 w g 0 n d' os).heap.size 5 encG (some ⟨g,0,none⟩) d'.toList:=by
   refine yN7 yS9 (l:=d'.toList) (by have:=holdsK_sortWorldK_c encG 5 w g 0 l.zipIdx.toArray d' n os hH hlt (by simpa using hsz);simpa using this) ?_;exact Nat.lt_of_lt_of_le hlt (size_sortWorldK_c encG 5 w g 0 n _ os)
  rcases hsl with h0 | ⟨b,o,hA,hb,hc⟩
  ·left;rw[h0];rfl
  ·refine .inr ⟨b,o,hA,hb,fun i hi j u hu=>?_⟩;rw[List.length_map] at hi;have:=hc i hi j u (by rw[List.getElem_map] at hu;exact hu);exact this
theorem xW5 (v:Value)(l:List Us)(w:World)(h:w.ownsRow 0 52 5 v l.length (l.flatMap encU))(hl:l.length≤1048576) :
  Calls Tryz.prog 42 #[v,.func (.func 43) #[] #[]] w (RetSU w v l):=by
 have cS:=qK (yJ6 v l w h hl);obtain⟨A,c,rfl⟩:=zU6 h;generalize hQ:RetSU w (.slice A l.length c) l=Q at cS;have HQ:=qK hQ;clear hQ h;go_enter Tryz.func42,Tryz.ntmps42
 go_wp2_with fail
 refine cS.out.mono ?_;intro e w2 hq;have HQ2:=qK hq;have hr:e=.returned (.tuple #[]):=by
  have h:=HQ2.out;rw[←HQ.out] at h;exact h.1
 subst hr;clear hq cS;go_wp2
 go_end0
 exact HQ2.out
section
variable {X X':Type}{R:RF}{C:Clo X}{C':Clo X'}{n s:Nat}{σ:GS X}{Im:Nat→Prop}{w w' wy:World}
def GS.bare (σ:GS X):GS Unit:=⟨σ.ρ,σ.av,σ.en,()⟩
theorem St.bare (h:St R C n s σ Im w):St R clo0 n s σ.bare Im w:=
 ⟨h.rs,h.al,trivial,⟨fun b hb=>h.zo.mu b (by
  rcases hb with h1 | h1 | h1 | h1 | h1
  ·exact .inl h1
  ·exact .inr (.inl h1)
  ·exact .inr (.inr (.inl h1))
  ·exact .inr (.inr (.inr (.inl h1)))
  ·exact h1.elim),h.zo.im⟩,fun b hb=>hb.elim,h.am,h.im,h.lo,by have:=h.bu;show 0+_≤_;have e:σ.bare.ρ=σ.ρ:=rfl;rw[e];omega,h.lv⟩
theorem St.loose (h:St R C n s σ Im w){b:Nat}(hb:C.M σ.x b):Mine (zn R clo0 σ.bare Im) w b:=by
 have hm:(zn R C σ Im).Mut b:=.inr (.inr (.inr (.inr hb)));refine⟨(h.zo.mu b hm).1,?_,(h.zo.mu b hm).2⟩;obtain⟨h1,h2,h3,h4⟩:=h.cm b hb;rintro(e | e | ⟨o,ho,e⟩ | e | e)
 ·exact h1 e
 ·exact h2 e
 ·exact h3 o ho e
 ·exact h4 e
 ·exact e
theorem Mine.bare {b:Nat}(h:Mine (zn R C σ Im) w b):Mine (zn R clo0 σ.bare Im) w b:=⟨h.1,fun hm=>h.2.1 (by
  rcases hm with h1 | h1 | h1 | h1 | h1
  ·exact .inl h1
  ·exact .inr (.inl h1)
  ·exact .inr (.inr (.inl h1))
  ·exact .inr (.inr (.inr (.inl h1)))
  ·exact h1.elim),h.2.2⟩
def RF.with_ (R:RF)(u:Value):RF:={R with use:=u}
def GS.put (σ:GS X)(x':X'):GS X':=⟨σ.ρ,σ.av,σ.en,x'⟩
theorem St.swap {σ:GS Unit}(h:St R clo0 n s σ Im w){x':X'}(u:Value)(hk:Kp (fun b=>b=R.r) w w')
  (hrc:Blk w' R.r 86 #[.string ⟨R.path.toArray⟩,.slice R.FA R.nF R.cF,.pointer (some ⟨R.root,0,none⟩),.slice R.Ai R.iB.length R.ci,.slice R.Au R.uB.length R.cu,σ.av,.bool σ.ρ.twice,.bool σ.ρ.cyc,u])
  (hAt:C'.At x' w')(hM:∀ b,C'.M x' b→w.heap.size≤b∧b < w'.heap.size)(hct:C'.ct x'=0):St (R.with_ u) C' n s (σ.put x') Im w':=by
 have hs:=hk.size;have hiN:∀ b,Im b→¬ b=R.r:=fun b hb e=>(h.zo.mu b (.inl e)).2 hb;refine⟨⟨hrc,Nat.lt_of_lt_of_le h.rs.rl hs,?_,(h.rs.ob.kept hk fun o ho e=>zQ1 (h.rs.ob.at_ o ho) h.rs.rc (by decide) e).more hs⟩,zU4 h.al hk (fun b hb e=>(h.am b hb).1 e),hAt,⟨fun b hb=>?_,fun b hb=>Nat.lt_of_lt_of_le (h.zo.im b hb) hs⟩,fun b hb=>?_,h.am,h.im,fun o ho=>(h.lo o ho).kept hk hiN (fun _ h=>h),?_,h.lv⟩
 ·have hm:=(h.rs.mp.keptA hk (imN h.im.1 hiN) (imN h.im.2.1 hiN) (fun b hb=>hiN b (h.im.2.2 b hb)) (fun b hb e=>xY9 h.rs.rc h.rs.mp.mu b hb e)).more hs;exact⟨hm.im,hm.us,hm.li,hm.lu,hm.lb,hm.iB,hm.uB,hm.nu,hm.di,hm.mi,hm.mu,hm.su,hm.sl⟩
 ·have hold:(zn R clo0 σ Im).Mut b∨(w.heap.size≤b∧b < w'.heap.size):=by
   rcases hb with h1 | h1 | h1 | h1 | h1
   ·exact .inl (.inl h1)
   ·exact .inl (.inr (.inl h1))
   ·exact .inl (.inr (.inr (.inl h1)))
   ·exact .inl (.inr (.inr (.inr (.inl h1))))
   ·exact .inr (hM b h1)
  rcases hold with h1 | ⟨h1,h2⟩
  ·exact⟨Nat.lt_of_lt_of_le (h.zo.mu b h1).1 hs,(h.zo.mu b h1).2⟩
  ·exact⟨h2,fun hi=>by have:=h.zo.im b hi;omega⟩
 ·have h1:=(hM b hb).1;refine⟨fun e=>?_,fun hu=>?_,fun o ho e=>?_,fun ha=>?_⟩
  ·have:=h.rs.rl;have e':b=R.r:=e;omega
  ·have:=h.rs.mp.uB b hu;omega
  ·have:=h.rs.ob.lt o ho;omega
  ·have:=(zR9 h.al b ha).2;omega
 ·have:=h.bu;have e:clo0.ct σ.x=0:=rfl;rw[e] at this;show C'.ct x'+(σ.ρ.all.length+wObs σ.ρ.objs+s)≤_;rw[hct];exact this
end
structure Btw (w1:World)(p:PA)(s:Nat)(R:RF)(env:List ScA)(σ:GS Unit)(Im:Nat→Prop)(wx:World):Prop where
 st:St R clo0 1099511627776 s σ Im wx
 pk:PkI Im wx R p.files
 en:EnvI Im wx (.pointer (some ⟨R.root,0,none⟩)) env
 kn:EnvK σ.ρ.objs env
 old:∀ b,b < w1.heap.size→Im b
 nu:R.uB.length=p.files.length
 lo:Below w1.heap.size w1 wx
structure OutU (w1:World)(R:RF)(v:Value)(l:List Us)(σ:GS Unit)(Im:Nat→Prop)(wx:World):Prop where
 ac:Acc wx 0 52 5 v l.length (l.flatMap encU)
 ma:∀ b,v.ownBlock=some b→Mine (zn R clo0 σ Im) wx b∧w1.heap.size≤b
section
variable {w1 wx wy:World}{p:PA}{s:Nat}{R:RF}{env:List ScA}{σ:GS Unit}{Im:Nat→Prop}{v:Value}{l:List Us}{N:Nat→Prop}
theorem Btw.write (h:Btw w1 p s R env σ Im wx)(hk:Kp N wx wy)(hN:∀ b,N b→w1.heap.size≤b∧¬ (zn R clo0 σ Im).Mut b∧¬ Im b):Btw w1 p s R env σ Im wy:=by
 have hi:∀ b,Im b→¬ N b:=fun b hb hn=>(hN b hn).2.2 hb;exact⟨h.st.kept hk fun b hb=>(hN b hb).2,h.pk.kept hk hi (fun _ h=>h),h.en.kept hk hi (fun _ h=>h),h.kn,h.old,h.nu,h.lo.trans (hk.toBelow h.lo.size fun i hi hn=>by have:=(hN i hn).1;omega)⟩
theorem Btw.below (h:Btw w1 p s R env σ Im wx)(hb:Below wx.heap.size wx wy):Btw w1 p s R env σ Im wy:=h.write (N:=fun _=>False) (Kp.ofBelow hb _) fun _ h=>h.elim
theorem Btw.less {s':Nat}(h:Btw w1 p s R env σ Im wx)(hs:s'≤s):Btw w1 p s' R env σ Im wx:=⟨h.st.less hs qJ,h.pk,h.en,h.kn,h.old,h.nu,h.lo⟩
theorem OutU.nil_:OutU w1 R (.slice none 0 0) [] σ Im wx:=⟨Acc.nil_ _ _ _ _,fun b hb=>(by cases hb)⟩
theorem OutU.write (h:OutU w1 R v l σ Im wx)(hk:Kp N wx wy)(hN:∀ b,v.ownBlock=some b→¬ N b):OutU w1 R v l σ Im wy:=⟨zE9 h.ac hk hN,fun b hb=>⟨(h.ma b hb).1.up hk.size,(h.ma b hb).2⟩⟩
theorem OutU.below (h:OutU w1 R v l σ Im wx)(hb:Below wx.heap.size wx wy):OutU w1 R v l σ Im wy:=h.write (N:=fun _=>False) (Kp.ofBelow hb _) fun _ _ h=>h
end
theorem LoadOk.btw {w1 wx:World}{p:PA}{s:Nat}{R:RF}{σ0 σ:GS Unit}{env:List ScA}{Im:Nat→Prop}(h:LoadOk w1.heap.size w1 p s R σ0 σ env Im wx)(hb:Below w1.heap.size w1 wx):Btw w1 p s R env σ Im wx:=⟨h.st,h.pk,h.en,h.kn,h.old,h.nu,hb⟩
def zL4 (us:List Us)(err:Int)(w:World)(e:Ending)(w':World):Prop:=
 ∃ A c,e=.returned (.tuple #[.slice A us.length c,.int .i64 err])∧Sl w' w'.heap.size 5 encU A us∧us.length≤1099511627776∧Below w.heap.size w w'∧∀ a,us≠[]→A=some a→w.heap.size≤a.block
theorem zG4 {rx:Tx→Bool}{p:PA}(h:zV6 rx p≠0):errP rx (plP p)=zV6 rx p:=by
 unfold errP zV6 at *;have e:(plP p).files=p.files.map plF:=rfl;rw[e,List.find?_map];have e2:((fun f=>decide (errF rx f≠0)) ∘ plF)=fun f=>decide (errF rx (plF f)≠0):=rfl;rw[e2];cases hf:p.files.find? (fun f=>decide (errF rx (plF f)≠0)) with
 | some f=>rfl
 | none=>
   rw[hf] at h;simp only at h;simp only[Option.map_none];have e3:(p.files.map plF).any (fun f=>decide (f.pkg≠((p.files.map plF).headD ⟨[],[],[],[]⟩).pkg))=p.files.any fun f=>decide (f.pkg≠(p.files.map (·.pkg)).headD []):=by
    rw[List.any_map];cases p.files with
    | nil=>rfl
    | cons x l=>rfl
   rw[e3];by_cases hc:(p.files.any fun f=>decide (f.pkg≠(p.files.map (·.pkg)).headD []))=true
   ·rw[if_pos hc,if_pos hc]
   ·rw[if_neg hc] at h;exact absurd rfl h
theorem zM0 {rx:Tx→Bool}{p:PA}(h:zV6 rx p=0):errP rx (plP p)=if yG3 (plP p).files then 6 else 0:=by
 unfold errP zV6 at *;have e:(plP p).files=p.files.map plF:=rfl;rw[e,List.find?_map];have e2:((fun f=>decide (errF rx f≠0)) ∘ plF)=fun f=>decide (errF rx (plF f)≠0):=rfl;rw[e2];cases hf:p.files.find? (fun f=>decide (errF rx (plF f)≠0)) with
 | some f=>
   rw[hf] at h;have:=List.find?_some hf;simp only at h;simp[h] at this
 | none=>
   rw[hf] at h;simp only at h;simp only[Option.map_none];have e3:(p.files.map plF).any (fun f=>decide (f.pkg≠((p.files.map plF).headD ⟨[],[],[],[]⟩).pkg))=p.files.any fun f=>decide (f.pkg≠(p.files.map (·.pkg)).headD []):=by
    rw[List.any_map];cases p.files with
    | nil=>rfl
    | cons x l=>rfl
   rw[e3];by_cases hc:(p.files.any fun f=>decide (f.pkg≠(p.files.map (·.pkg)).headD []))=true
   ·rw[if_pos hc] at h;cases h
   ·rw[if_neg hc]
theorem yM3 (fs:List Fl):∀ (l:List Fl)(j:Nat)(f:Fl),usFs fs j (l++ [f])=usFs fs j l++stU (uDs (zM7 fs) f.decls [zY5 fs] [] (j+l.length))
 | [],j,f=>by simp[usFs]
 | x ::l,j,f=>by
   have e:j+1+l.length=j+(x ::l).length:=by rw[List.length_cons];omega
   rw[List.cons_append,usFs,usFs,yM3 fs l (j+1) f,List.append_assoc,e]
theorem yW7 {p:PA}{R:RF}{σ0:GS Unit}{env:List ScA}(h:Root p R σ0 env):env.map shA=[zY5 (plP p).files]∧R.imps=zM7 (plP p).files:=by
 obtain⟨bF,bL,rfl⟩:=h.ev;refine⟨?_,?_⟩
 ·show [shA _]=[zY5 (p.files.map plF)];rw[zE4];unfold shA zJ2;have hl:(zZ8 p.files).length=(σ0.ρ.objs.map (·.blk)).length:=by
   have:=congrArg List.length h.o2;rw[List.length_map] at this;rw[List.length_map,this,zZ8,List.length_map,←zD7 p.files 0,List.length_map]
  simp only;rw[List.map_fst_zip qG]
 ·rw[h.im];unfold zX7 zM7 plP;rw[List.map_map];rfl
end Go.Proofs.YtdgehhgjgifikaaGreatDoor
