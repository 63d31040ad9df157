/- The reference's redirecting: lists that grow, and a function made anew. No condition. -/
import Derived.Test.YtnomiclfiijniaaGreatQS39
import Derived.Test.YtnomiclfiijniaaGreatQS34
import Derived.Test.YtnomiclfiijniaaGreatQS37
section
namespace Go.Proofs.YtnomiclfiijniaaGreat
set_option maxRecDepth 100000
set_option linter.unusedSimpArgs false
set_option linter.unusedVariables false
def rdG (fr to x:Int):Int:=if x=fr then to else x
theorem redirect1_wr (ifr ito:Nat) (fr to:Int):Wr 110 [.ptr ifr 1 0 0,.ptr ito 1 0 0] (fun H=>H[ifr]? = some (.row 1 [[.d (.int .i64 fr)]])∧H[ito]? = some (.row 1 [[.d (.int .i64 to)]])) [ifr,ito] (fun _=>True) (rdG fr to):=by
  refine ⟨fun H id e es i j x c hE hH hes hc hce _ hid=>?_,fun H H' hk hE=>⟨(hk _ (by simp)).trans hE.1,(hk _ (by simp)).trans hE.2⟩⟩
  obtain ⟨h1,h2⟩:=hE
  have hil:i < es.length:=(List.getElem?_eq_some_iff.1 hes).1
  have hjl:j < c.length:=(List.getElem?_eq_some_iff.1 hc).1
  have hje:j + 1≤e:=by omega
  have hgi:∀ h:i < es.length,es[i]=c:=fun h=>by
    have:=List.getElem?_eq_getElem h
    rw [hes] at this
    exact (Option.some.inj this).symm
  have hdt:(c.drop j).take 1=[.d (.int .i64 x)]:=by
    rw [List.drop_eq_getElem_cons hjl]
    have:=List.getElem?_eq_getElem hjl
    rw [hc] at this
    rw [← Option.some.inj this];rfl
  have hidl:id < H.length:=(List.getElem?_eq_some_iff.1 hH).1
  have set_self:∀ {γ:Type} (l:List γ) (i:Nat) (x:γ),l[i]? = some x→l.set i x=l:=fun l i x h=>by
    refine List.ext_getElem? fun j=>?_
    rw [List.getElem?_set]
    split
    · rename_i e;subst e;rw [if_pos (List.getElem?_eq_some_iff.1 h).1,h]
    · rfl
  by_cases hx:x=fr
  · have hg:rdG fr to x=to:=by simp [rdG,hx]
    rw [hg]
    refine calls_of Tryz.func110 en_110 rfl (of_decide_eq_true rfl) (W_run mixed ⟨[],[],[],12,H.length,[0,1,2,8],[8]⟩ (fun | 0=>[0,1,2,3,4] | _=>[]) (by kernel_rfl) ?_)
    simp only [Tryz.f110,stripX,stripOps,pickOps]
    simp [retQ,hH,hil,hgi,hdt,hje,h1,h2,hx]
    exact Fin.same (by simp)
  · have hg:rdG fr to x=x:=by simp [rdG,hx]
    rw [hg,set_self c j _ hc,set_self es i _ hes,set_self H id _ hH]
    refine calls_of Tryz.func110 en_110 rfl (of_decide_eq_true rfl) (W_run mixed ⟨[],[],[],12,H.length,[0,1,2,8],[8]⟩ (fun | 0=>[0,1,2,3,4] | _=>[]) (by kernel_rfl) ?_)
    simp only [Tryz.f110,stripX,stripOps,pickOps]
    simp [retQ,hH,hil,hgi,hdt,hje,h1,h2,hx]
    exact Fin.same (by simp)
theorem redirect_own (H:Heap) (A:AFunc) (idf:Nat) (fr to:Int) (hf:H[idf]? = some (.row 2 [[.d (.int .i64 A.params_),A.blocks_.v]])) (hO:Own H A) (hn:idf ∉ ids A) (hl:smallA A) :
    CallsD Tryz.prog 64 [.ptr idf 2 0 0,.d (.int .i64 fr),.d (.int .i64 to)] H fun r H'=>r=.tup []∧∃ bs:AS ABlock,Own H' bs∧bs.v=A.blocks_.v∧ids bs=ids A.blocks_∧Only (ids A.blocks_) H H'∧Tr.era bs=(Tr.era A.blocks_).map (mpB (rdG fr to))∧((∀ b∈A.blocks_.l,SB b)→∀ b∈bs.l,SB b):=by
  have hlt:∀ j∈ids A,j < H.length:=fun j hj=>hO.lt hj
  have hfl:=(List.getElem?_eq_some_iff.1 hf).1
  refine calls_of Tryz.func64 en_64 rfl (of_decide_eq_true rfl) (W_run mixed ⟨[],[],[100],9,H.length,[0,1,2,4,5],[]⟩ (fun _=>[]) (by kernel_rfl) ?_)
  simp only [Tryz.f64,stripX,stripOps,pickOps]
  simp [-V.flat,-V.one,one_int,one_bool,one_str,one_nilp,one_rp,one_nilsl,one_ro,one_cl,one_nilf,one_nili,one_ifc,one_ptr,one_sl,one_clo,flat_d,flat_ptr,flat_sl,flat_clo,flat_agg,retQ]
  refine (usesT (redirect1_wr H.length (H.length + 1) fr to) (A:=A) (idf:=idf) ?_ ⟨by simp,by simp⟩ (hO.frame (Only.app [] _ _) fun j _ hj=>absurd hj List.not_mem_nil) hn (fun k hk=>⟨fun q=>?_, ?_⟩) (fun _ _ _ _=>trivial) hl).mono ?_
  · rw [List.getElem?_append_left hfl];exact hf
  · have:=hlt k q
    simp only [List.mem_cons,List.not_mem_nil,or_false] at hk
    omega
  · simp only [List.mem_cons,List.not_mem_nil,or_false] at hk
    simp;omega
  rintro r H' ⟨rfl,bs,hm,he,hsb⟩
  have hv:bs.v=A.blocks_.v:=List.head_eq_of_cons_eq hm.cells
  have ho:Only (ids A.blocks_) H H':=(Only.app [] H _).trans hm.only (fun j hj=>absurd hj List.not_mem_nil) fun j hj _=>hj
  simp [-V.flat,-V.one,one_int,one_bool,one_str,one_nilp,one_rp,one_nilsl,one_ro,one_cl,one_nilf,one_nili,one_ifc,one_ptr,one_sl,one_clo,flat_d,flat_ptr,flat_sl,flat_clo,flat_agg,retQ]
  exact ⟨_,_,Fin.same ho.len,rfl,bs,hm.own,hv,hm.ids,ho,he,hsb⟩
end Go.Proofs.YtnomiclfiijniaaGreat
end

section
namespace Go.Proofs.YtnomiclfiijniaaGreat
set_option maxRecDepth 100000
set_option linter.unusedSimpArgs false
set_option linter.unusedVariables false
def Gr (n0:Nat) (l:List Int) (v:V) (H:Heap):Prop:=(l=[]∧v=.d .nilsl)∨∃ id,v=.sl id 1 0 l.length∧0 < l.length∧n0≤id∧H[id]? = some (.row 1 (rI l))
theorem Gr.new {n0:Nat} {l:List Int} {H:Heap} {P:Place} {rows:List (List V)} {n:Nat} (h:n0≤H.length) (hl:0 < l.length) (hn:n=l.length) (hr:rows=rI l):Gr n0 l (.sl (H.length + 1) 1 0 n) (H++[P,.row 1 rows]) :=
  .inr ⟨_,by rw [hn],hl,by omega,by rw [List.getElem?_append_right (by omega),Nat.add_sub_cancel_left,hr];rfl⟩
theorem Gr.new2 {n0 id:Nat} {l:List Int} {H:Heap} {P:Place} {rows:List (List V)} {n:Nat} (h:n0≤H.length) (hl:0 < l.length) (hn:n=l.length) (hr:rows=rI l):Gr n0 l (.sl (H.length + 1) 1 0 n) (H.set id .dead++[P,.row 1 rows]):=by
  have:=Gr.new (n0:=n0) (H:=H.set id .dead) (P:=P) (by simpa using h) hl hn hr
  rwa [List.length_set] at this
theorem only_dead {H0 H:Heap} {id:Nat} {R:Heap} (h:Only [] H0 H) (hi:H0.length≤id):Only [] H0 (H.set id .dead++R) :=
  ⟨by simp;have:=h.len;omega,fun j hj _=>by rw [List.getElem?_append_left (by have:=h.len;simp;omega),List.getElem?_set_ne (by omega)];exact h.at_ j hj List.not_mem_nil⟩
theorem only_more {H0 H R:Heap} (h:Only [] H0 H):Only [] H0 (H++R):=h.trans (Only.app [] _ _) (fun j hj=>hj) fun j hj _=>hj
theorem Gr.fin {H H1:Heap} {l:List Int} {v:V} {Q:V→Heap→Prop} (hg:Gr H.length l v H1) (ho:Only [] H H1) (hq:∀ H',New H H' (⟨v,l⟩:AS Int)→Q v H'):∃ r' H',Fin H.length H1 v H' r'∧Q r' H':=by
  rcases hg with ⟨rfl,rfl⟩ | ⟨id,rfl,hp,hi,hr⟩
  · exact fin_new (own_nil _) ho (fun j hj=>absurd hj List.not_mem_nil) hq
  · refine fin_new (a:=(⟨.sl id 1 0 l.length,l⟩:AS Int)) (own_row hr) ho (fun j hj=>?_) hq
    rw [ids_row] at hj
    rw [List.mem_singleton.1 hj];exact hi
def sgl (n:Nat):List Int:=(List.range n).map fun k:Nat=>(k:Int)
theorem sgl_len (n:Nat):(sgl n).length=n:=by simp [sgl]
theorem sgl_succ (n:Nat):sgl (n + 1)=sgl n++[(n:Int)]:=by simp [sgl,List.range_succ]
theorem sgl_get {n k:Nat} (h:k < n):(sgl n)[k]? = some (k:Int):=by simp [sgl,h]
theorem rI_snoc {l:List Int} {x:Int} {n:Nat} (h:n=l.length):List.take n (rI l)++[[V.d (.int .i64 x)]]=rI (l++[x]):=by
  subst h
  rw [List.take_of_length_le (by simp)];simp
theorem l11Single_own (H:Heap) (n:Int) (h0:0≤n) (h1:n≤1000):CallsD Tryz.prog 112 [.d (.int .i64 n)] H fun r H'=>∃ s:AS Int,r=s.v∧s.l=sgl n.toNat∧New H H' s:=by
  refine calls_of Tryz.func112 en_112 rfl (of_decide_eq_true rfl) (W_run mixed ⟨[],[],[],15,H.length,[0,2,3,4,7],[7]⟩ (fun _=>[]) (by kernel_rfl) ?_)
  simp only [Tryz.f112,stripX,stripOps,pickOps]
  simp [-V.flat,-V.one,one_int,one_bool,one_str,one_nilp,one_rp,one_nilsl,one_ro,one_cl,one_nilf,one_nili,one_ifc,one_ptr,one_sl,one_clo,flat_d,flat_ptr,flat_sl,flat_clo,flat_agg,retQ]
  refine W_loopH (α:=Nat × V × Heap) (fun a=>[(0,.d (.int .i64 n)),(3,a.2.1),(4,.d (.int .i64 a.1))]) (fun a=>a.2.2) (fun a=>(a.1:Int)≤n∧Gr H.length (sgl a.1) a.2.1 a.2.2∧Only [] H a.2.2) (fun a=>n.toNat - a.1) (0,.d .nilsl,H) ?_ ⟨h0,.inl ⟨rfl,rfl⟩,Only.refl _ _⟩ ?_
  · simp
  rintro ⟨k,v,H1⟩ ⟨hk,hg,ho⟩
  simp only [] at hk hg ho
  have hol:=ho.len
  have hpos:0 < (sgl (k + 1)).length:=by rw [sgl_len];omega
  have wk:(k:Int) < n→IntKind.i64.wrap ((k:Int) + 1)=((k + 1:Nat):Int):=fun h=>by rw [wrap_id] <;> omega
  have done:n≤k→n.toNat=k:=fun h=>by omega
  have hg0:=hg
  rcases hg with ⟨q,rfl⟩ | ⟨id,rfl,hp,hi,hr⟩
  · have k0:k=0:=by have:=sgl_len k;rw [q] at this;exact this.symm
    refine W_run mixed ⟨[],[],[],15,H.length,[0,2,3,4,7],[7]⟩ (fun _=>[]) (by kernel_rfl) ?_
    simp only [stripX,stripOps,pickOps]
    simp [-V.flat,-V.one,one_int,one_bool,one_str,one_nilp,one_rp,one_nilsl,one_ro,one_cl,one_nilf,one_nili,one_ifc,one_ptr,one_sl,one_clo,flat_d,flat_ptr,flat_sl,flat_clo,flat_agg,retQ]
    refine ⟨fun h=>⟨k + 1,_,_,⟨by omega,Gr.new hol hpos ?_ ?_,only_more ho⟩,by omega,rfl,rfl,wk h⟩,fun h=>hg0.fin ho fun H' h'=>⟨_,rfl,by rw [done h],h'⟩⟩
    · rw [sgl_len,k0]
    · rw [sgl_succ,q];rfl
  · rw [sgl_len] at hg0 ⊢
    have hid:=(List.getElem?_eq_some_iff.1 hr).1
    have hr':∀ R:Heap,(H1++R)[id]? = some (.row 1 (rI (sgl k))):=fun R=>(List.getElem?_append_left hid).trans hr
    have hset:∀ (R:Heap) p,(H1++R).set id p=H1.set id p++R:=fun R p=>List.set_append_left _ _ hid
    refine W_run mixed ⟨[],[],[],15,H.length,[0,2,3,4,7],[7]⟩ (fun _=>[]) (by kernel_rfl) ?_
    simp only [stripX,stripOps,pickOps]
    simp [-V.flat,-V.one,one_int,one_bool,one_str,one_nilp,one_rp,one_nilsl,one_ro,one_cl,one_nilf,one_nili,one_ifc,one_ptr,one_sl,one_clo,flat_d,flat_ptr,flat_sl,flat_clo,flat_agg,retQ,hr',hset,sgl_len]
    refine ⟨fun h=>⟨by omega,k + 1,_,_,⟨by omega,Gr.new2 hol hpos (sgl_len _).symm ?_,only_dead ho hi⟩,by omega,rfl,rfl,wk h⟩,fun h=>hg0.fin ho fun H' h'=>⟨_,rfl,by rw [done h],h'⟩⟩
    rw [rI_snoc (sgl_len k).symm,sgl_succ]
def mapL (T:List Int) (v:Int):Int:=T[v.toNat]?.getD 0
theorem take_mapL {T l:List Int} {i:Nat} (h:i < l.length):(l.map (mapL T)).take (i + 1)=(l.map (mapL T)).take i++[mapL T (l[i]?.getD 0)]:=by
  rw [List.take_succ_eq_append_getElem (by simpa using h),List.getElem?_eq_getElem h];simp
theorem l15Args_own (H:Heap) (l T:List Int) (h1:l.length≤1000) (hT:∀ v∈l,0≤v∧v < T.length):CallsD Tryz.prog 144 [.d (dIntS l),.d (dIntS T)] H fun r H'=>∃ s:AS Int,r=s.v∧s.l=l.map (mapL T)∧New H H' s:=by
  refine calls_of Tryz.func144 en_144 rfl (of_decide_eq_true rfl) (W_run mixed ⟨[],[],[],23,H.length,[0,1,4,5,7,8,9,10,11],[11]⟩ (fun _=>[]) (by kernel_rfl) ?_)
  simp only [Tryz.f144,stripX,stripOps,pickOps]
  simp [-V.flat,-V.one,one_int,one_bool,one_str,one_nilp,one_rp,one_nilsl,one_ro,one_cl,one_nilf,one_nili,one_ifc,one_ptr,one_sl,one_clo,flat_d,flat_ptr,flat_sl,flat_clo,flat_agg,retQ]
  refine W_loopH (α:=Nat × V × Heap) (fun a=>[(1,.d (dIntS T)),(5,a.2.1),(8,.d (dIntS l)),(9,.d (.int .i64 l.length)),(10,.d (.int .i64 a.1))]) (fun a=>a.2.2) (fun a=>a.1≤l.length∧Gr H.length ((l.map (mapL T)).take a.1) a.2.1 a.2.2∧Only [] H a.2.2) (fun a=>l.length - a.1) (0,.d .nilsl,H) ?_ ⟨Nat.zero_le _,.inl ⟨rfl,rfl⟩,Only.refl _ _⟩ ?_
  · simp
  rintro ⟨k,v,H1⟩ ⟨hk,hg,ho⟩
  simp only [] at hk hg ho
  have hol:=ho.len
  have hlen:k≤l.length→((l.map (mapL T)).take k).length=k:=fun h=>by simp;omega
  have wk:k < l.length→IntKind.i64.wrap ((k:Int) + 1)=((k + 1:Nat):Int):=fun h=>by rw [wrap_id] <;> omega
  have done:l.length≤k→(l.map (mapL T)).take k=l.map (mapL T):=fun h=>by rw [List.take_of_length_le (by simpa using h)]
  have hv:k < l.length→0≤l[k]?.getD 0∧l[k]?.getD 0 < T.length:=fun h=>hT _ (by rw [List.getElem?_eq_getElem h];exact List.getElem_mem h)
  have hg0:=hg
  rcases hg with ⟨q,rfl⟩ | ⟨id,rfl,hp,hi,hr⟩
  · have k0:k=0:=by have:=hlen hk;rw [q] at this;exact this.symm
    refine W_run mixed ⟨[],[],[],23,H.length,[0,1,4,5,7,8,9,10,11],[11]⟩ (fun _=>[]) (by kernel_rfl) ?_
    simp only [stripX,stripOps,pickOps]
    simp [-V.flat,-V.one,one_int,one_bool,one_str,one_nilp,one_rp,one_nilsl,one_ro,one_cl,one_nilf,one_nili,one_ifc,one_ptr,one_sl,one_clo,flat_d,flat_ptr,flat_sl,flat_clo,flat_agg,retQ]
    refine ⟨fun h=>⟨h,hv h,k + 1,_,_,⟨by omega,Gr.new hol (by simp;omega) ?_ ?_,only_more ho⟩,by omega,rfl,rfl,wk h⟩,fun h=>hg0.fin ho fun H' h'=>⟨_,rfl,by rw [done h],h'⟩⟩
    · simp;omega
    · rw [take_mapL h,q];rfl
  · rw [hlen hk] at hg0 ⊢
    have hid:=(List.getElem?_eq_some_iff.1 hr).1
    have hr':∀ R:Heap,(H1++R)[id]? = some (.row 1 (rI ((l.map (mapL T)).take k))):=fun R=>(List.getElem?_append_left hid).trans hr
    have hset:∀ (R:Heap) p,(H1++R).set id p=H1.set id p++R:=fun R p=>List.set_append_left _ _ hid
    have hlk:=hlen hk
    have hgf:l.length≤k→∃ r' H',Fin H.length H1 (.sl id 1 0 k) H' r'∧∃ s:AS Int,r'=s.v∧s.l=l.map (mapL T)∧New H H' s:=fun h=>by
      have:=hg0.fin (Q:=fun r H'=>∃ s:AS Int,r=s.v∧s.l=l.map (mapL T)∧New H H' s) ho fun H' h'=>⟨_,rfl,by rw [done h],h'⟩
      exact this
    generalize hm:(l.map (mapL T)).take k=m at hg0 hr' hlk
    have hml:m.length=k:=hlk
    refine W_run mixed ⟨[],[],[],23,H.length,[0,1,4,5,7,8,9,10,11],[11]⟩ (fun _=>[]) (by kernel_rfl) ?_
    simp only [stripX,stripOps,pickOps]
    simp [-V.flat,-V.one,one_int,one_bool,one_str,one_nilp,one_rp,one_nilsl,one_ro,one_cl,one_nilf,one_nili,one_ifc,one_ptr,one_sl,one_clo,flat_d,flat_ptr,flat_sl,flat_clo,flat_agg,retQ,hr',hset,hml]
    subst hm
    refine ⟨fun h=>⟨h,hv h,by omega,k + 1,_,_,⟨by omega,Gr.new2 hol (by simp;omega) (by simp;omega) ?_,only_dead ho hi⟩,by omega,rfl,rfl,wk h⟩,fun h=>hgf h⟩
    rw [rI_snoc hlk.symm,take_mapL h];rfl
end Go.Proofs.YtnomiclfiijniaaGreat
end
