/- The reference's redirecting: lists that grow, and a function made anew. No condition. -/
import Derived.Test.YthafdegfjadijaaGreatQS23
import Derived.Test.YthafdegfjadijaaGreatQE6
section
namespace Go.Proofs.YthafdegfjadijaaGreat
set_option maxRecDepth 100000
set_option linter.unusedSimpArgs false
set_option linter.unusedVariables false
def memOk (l:List Inst):Prop:=∀ x∈l,(x.op_=12→1≤x.args_.length)∧(x.op_=13→2≤x.args_.length)
structure OkM (v:View) (n:Int):Prop where
  ok:okV v n
  b:0≤bk v n→0≤atV v n→bk v n < v.first_.length∧bk v n < v.blocks_.length∧atV v n < (blkAt v n).insts_.length∧(blkAt v n).insts_.length≤80∧memOk (blkAt v n).insts_
end Go.Proofs.YthafdegfjadijaaGreat
end

section
namespace Go.Proofs.YthafdegfjadijaaGreat
set_option maxRecDepth 100000
set_option linter.unusedSimpArgs false
set_option linter.unusedVariables false
theorem own_nil (H:Heap):Own H (⟨.d .nilsl,[]⟩:AS Int):=⟨⟨.inr ⟨rfl,.inl rfl⟩,fun a ha=>absurd ha List.not_mem_nil⟩,fun q hq=>absurd hq List.not_mem_nil,List.nodup_nil⟩
end Go.Proofs.YthafdegfjadijaaGreat
end

section
namespace Go.Proofs.YthafdegfjadijaaGreat
set_option maxRecDepth 100000
set_option linter.unusedSimpArgs false
set_option linter.unusedVariables false
abbrev zInst:List V:=[.d (.int .i64 0),.d (.int .i64 0),.d .nilsl]
abbrev zJump:List V:=[.d (.int .i64 0),.d .nilsl]
def solB (b:ABlock):Prop:=b.insts_.v=.sl b.insts_.id 3 0 b.insts_.l.length∧b.jumps_.v=.sl b.jumps_.id 2 0 b.jumps_.l.length
def solF (A:AFunc):Prop:=A.blocks_.v=.sl A.blocks_.id 5 0 A.blocks_.l.length∧∀ b∈A.blocks_.l,solB b
structure CF (H:Heap) (F:Func) (c r:Nat) (m:List ABlock) (H1:Heap):Prop where
  box:H1[H.length]? = some (.row 2 [[.d (.int .i64 F.params_),.d (dBlockS F.blocks_)]])
  out:H1[H.length + 1]? = some (.row 2 [[.d (.int .i64 0),.d .nilsl]])
  cell:H1[c]? = some (.row 2 [[.d (.int .i64 F.params_),.sl r 5 0 F.blocks_.length]])
  fl:Fl r F.blocks_ zBlock id m H1
  old:Only [] H H1
  hc:H.length + 1 < c
  hr:H.length + 1 < r
  hcr:c ≠ r
  hm:c ∉ m.flatMap ids
  sol:∀ b∈m,solB b
structure CB (H1:Heap) (x:Block) (ri rj:Nat) (mi:List AInst) (mj:List AJump) (H2:Heap):Prop where
  cell:H2[H1.length]? = some (.row 5 [[.d (.int .i64 x.params_),.d (dInstS x.insts_),.d (.int .i64 x.end_),.d (.int .i64 x.value_),.d (dJumpS x.jumps_)]])
  fi:Fl ri x.insts_ zInst id mi H2
  fj:Fl rj x.jumps_ zJump id mj H2
  old:Only [] H1 H2
  hi:H1.length < ri
  hj:H1.length < rj
  hij:ri ≠ rj
  gi:∀ j∈mi.flatMap ids,rj < j
  gj:∀ j∈mj.flatMap ids,ri < j∧j ∉ mi.flatMap ids
theorem own_row {H:Heap} {l:List Int} {id:Nat} (h:H[id]? = some (.row 1 (rI l))):Own H (⟨.sl id 1 0 l.length,l⟩:AS Int):=Own.mkS (ownL_ints l) h (by rw [ids_ints];exact List.not_mem_nil)
theorem ids_row {l:List Int} {id:Nat}:ids (⟨.sl id 1 0 l.length,l⟩:AS Int)=[id]:=by
  rw [ids_sl (s:=(⟨.sl id 1 0 l.length,l⟩:AS Int)) rfl,ids_ints]
end Go.Proofs.YthafdegfjadijaaGreat
end

section
namespace Go.Proofs.YthafdegfjadijaaGreat
set_option maxRecDepth 100000
set_option linter.unusedSimpArgs false
set_option linter.unusedVariables false
def mpI (g:Int→Int) (x:Inst):Inst:=⟨x.op_,x.n_,x.args_.map g⟩
def mpJ (g:Int→Int) (x:Jump):Jump:=⟨x.to_,x.args_.map g⟩
def mpB (g:Int→Int) (b:Block):Block:=⟨b.params_,b.insts_.map (mpI g),b.end_,if b.end_=2 then b.value_ else g b.value_,b.jumps_.map (mpJ g)⟩
structure Wr (fn:Nat) (caps:List V) (E:Heap→Prop) (K:List Nat) (U:Int→Prop) (g:Int→Int):Prop where
  call:∀ H id e es i j x c,E H→H[id]? = some (.row e es)→es[i]? = some c→c[j]? = some (.d (.int .i64 x))→c.length=e→U x→id ∉ K →
    CallsD Tryz.prog fn (.ptr id e i j :: caps) H fun r H'=>r=.tup []∧H'=H.set id (.row e (es.set i (c.set j (.d (.int .i64 (g x))))))
  keep:∀ H H',(∀ k∈K,H'[k]? = H[k]?)→E H→E H'
section
variable {fn:Nat} {caps:List V} {E:Heap→Prop} {K:List Nat} {U:Int→Prop} {g:Int→Int}
end
end Go.Proofs.YthafdegfjadijaaGreat
end

section
namespace Go.Proofs.YthafdegfjadijaaGreat
set_option maxRecDepth 100000
set_option linter.unusedSimpArgs false
set_option linter.unusedVariables false
section
variable {fn:Nat} {caps:List V} {E:Heap→Prop} {K:List Nat} {U:Int→Prop} {g:Int→Int}
end
end Go.Proofs.YthafdegfjadijaaGreat
end

section
namespace Go.Proofs.YthafdegfjadijaaGreat
set_option maxRecDepth 100000
set_option linter.unusedSimpArgs false
set_option linter.unusedVariables false
end Go.Proofs.YthafdegfjadijaaGreat
end

section
namespace Go.Proofs.YthafdegfjadijaaGreat
set_option maxRecDepth 100000
set_option linter.unusedSimpArgs false
set_option linter.unusedVariables false
def Gr (n0:Nat) (l:List Int) (v:V) (H:Heap):Prop:=(l=[]∧v=.d .nilsl)∨∃ id,v=.sl id 1 0 l.length∧0 < l.length∧n0≤id∧H[id]? = some (.row 1 (rI l))
theorem Gr.new {n0:Nat} {l:List Int} {H:Heap} {P:Place} {rows:List (List V)} {n:Nat} (h:n0≤H.length) (hl:0 < l.length) (hn:n=l.length) (hr:rows=rI l):Gr n0 l (.sl (H.length + 1) 1 0 n) (H++[P,.row 1 rows]) :=
  .inr ⟨_,by rw [hn],hl,by omega,by rw [List.getElem?_append_right (by omega),Nat.add_sub_cancel_left,hr];rfl⟩
theorem Gr.new2 {n0 id:Nat} {l:List Int} {H:Heap} {P:Place} {rows:List (List V)} {n:Nat} (h:n0≤H.length) (hl:0 < l.length) (hn:n=l.length) (hr:rows=rI l):Gr n0 l (.sl (H.length + 1) 1 0 n) (H.set id .dead++[P,.row 1 rows]):=by
  have:=Gr.new (n0:=n0) (H:=H.set id .dead) (P:=P) (by simpa using h) hl hn hr
  rwa [List.length_set] at this
theorem only_dead {H0 H:Heap} {id:Nat} {R:Heap} (h:Only [] H0 H) (hi:H0.length≤id):Only [] H0 (H.set id .dead++R) :=
  ⟨by simp;have:=h.len;omega,fun j hj _=>by rw [List.getElem?_append_left (by have:=h.len;simp;omega),List.getElem?_set_ne (by omega)];exact h.at_ j hj List.not_mem_nil⟩
theorem only_more {H0 H R:Heap} (h:Only [] H0 H):Only [] H0 (H++R):=h.trans (Only.app [] _ _) (fun j hj=>hj) fun j hj _=>hj
theorem Gr.fin {H H1:Heap} {l:List Int} {v:V} {Q:V→Heap→Prop} (hg:Gr H.length l v H1) (ho:Only [] H H1) (hq:∀ H',New H H' (⟨v,l⟩:AS Int)→Q v H'):∃ r' H',Fin H.length H1 v H' r'∧Q r' H':=by
  rcases hg with ⟨rfl,rfl⟩ | ⟨id,rfl,hp,hi,hr⟩
  · exact fin_new (own_nil _) ho (fun j hj=>absurd hj List.not_mem_nil) hq
  · refine fin_new (a:=(⟨.sl id 1 0 l.length,l⟩:AS Int)) (own_row hr) ho (fun j hj=>?_) hq
    rw [ids_row] at hj
    rw [List.mem_singleton.1 hj];exact hi
def sgl (n:Nat):List Int:=(List.range n).map fun k:Nat=>(k:Int)
theorem sgl_len (n:Nat):(sgl n).length=n:=by simp [sgl]
theorem sgl_succ (n:Nat):sgl (n + 1)=sgl n++[(n:Int)]:=by simp [sgl,List.range_succ]
theorem rI_snoc {l:List Int} {x:Int} {n:Nat} (h:n=l.length):List.take n (rI l)++[[V.d (.int .i64 x)]]=rI (l++[x]):=by
  subst h
  rw [List.take_of_length_le (by simp)];simp
theorem l11Single_own (H:Heap) (n:Int) (h0:0≤n) (h1:n≤1000):CallsD Tryz.prog 104 [.d (.int .i64 n)] H fun r H'=>∃ s:AS Int,r=s.v∧s.l=sgl n.toNat∧New H H' s:=by
  refine calls_of Tryz.func104 en_104 rfl (of_decide_eq_true rfl) (W_run mixed ⟨[],[],[],15,H.length,[0,2,3,4,7],[7]⟩ (fun _=>[]) (by kernel_rfl) ?_)
  simp only [Tryz.f104,stripX,stripOps,pickOps]
  simp [-V.flat,-V.one,one_int,one_bool,one_str,one_nilp,one_rp,one_nilsl,one_ro,one_cl,one_nilf,one_nili,one_ifc,one_ptr,one_sl,one_clo,flat_d,flat_ptr,flat_sl,flat_clo,flat_agg,retQ]
  refine W_loopH (α:=Nat × V × Heap) (fun a=>[(0,.d (.int .i64 n)),(3,a.2.1),(4,.d (.int .i64 a.1))]) (fun a=>a.2.2) (fun a=>(a.1:Int)≤n∧Gr H.length (sgl a.1) a.2.1 a.2.2∧Only [] H a.2.2) (fun a=>n.toNat - a.1) (0,.d .nilsl,H) ?_ ⟨h0,.inl ⟨rfl,rfl⟩,Only.refl _ _⟩ ?_
  · simp
  rintro ⟨k,v,H1⟩ ⟨hk,hg,ho⟩
  simp only [] at hk hg ho
  have hol:=ho.len
  have hpos:0 < (sgl (k + 1)).length:=by rw [sgl_len];omega
  have wk:(k:Int) < n→IntKind.i64.wrap ((k:Int) + 1)=((k + 1:Nat):Int):=fun h=>by rw [wrap_id] <;> omega
  have done:n≤k→n.toNat=k:=fun h=>by omega
  have hg0:=hg
  rcases hg with ⟨q,rfl⟩ | ⟨id,rfl,hp,hi,hr⟩
  · have k0:k=0:=by have:=sgl_len k;rw [q] at this;exact this.symm
    refine W_run mixed ⟨[],[],[],15,H.length,[0,2,3,4,7],[7]⟩ (fun _=>[]) (by kernel_rfl) ?_
    simp only [stripX,stripOps,pickOps]
    simp [-V.flat,-V.one,one_int,one_bool,one_str,one_nilp,one_rp,one_nilsl,one_ro,one_cl,one_nilf,one_nili,one_ifc,one_ptr,one_sl,one_clo,flat_d,flat_ptr,flat_sl,flat_clo,flat_agg,retQ]
    refine ⟨fun h=>⟨k + 1,_,_,⟨by omega,Gr.new hol hpos ?_ ?_,only_more ho⟩,by omega,rfl,rfl,wk h⟩,fun h=>hg0.fin ho fun H' h'=>⟨_,rfl,by rw [done h],h'⟩⟩
    · rw [sgl_len,k0]
    · rw [sgl_succ,q];rfl
  · rw [sgl_len] at hg0 ⊢
    have hid:=(List.getElem?_eq_some_iff.1 hr).1
    have hr':∀ R:Heap,(H1++R)[id]? = some (.row 1 (rI (sgl k))):=fun R=>(List.getElem?_append_left hid).trans hr
    have hset:∀ (R:Heap) p,(H1++R).set id p=H1.set id p++R:=fun R p=>List.set_append_left _ _ hid
    refine W_run mixed ⟨[],[],[],15,H.length,[0,2,3,4,7],[7]⟩ (fun _=>[]) (by kernel_rfl) ?_
    simp only [stripX,stripOps,pickOps]
    simp [-V.flat,-V.one,one_int,one_bool,one_str,one_nilp,one_rp,one_nilsl,one_ro,one_cl,one_nilf,one_nili,one_ifc,one_ptr,one_sl,one_clo,flat_d,flat_ptr,flat_sl,flat_clo,flat_agg,retQ,hr',hset,sgl_len]
    refine ⟨fun h=>⟨by omega,k + 1,_,_,⟨by omega,Gr.new2 hol hpos (sgl_len _).symm ?_,only_dead ho hi⟩,by omega,rfl,rfl,wk h⟩,fun h=>hg0.fin ho fun H' h'=>⟨_,rfl,by rw [done h],h'⟩⟩
    rw [rI_snoc (sgl_len k).symm,sgl_succ]
def mapL (T:List Int) (v:Int):Int:=T[v.toNat]?.getD 0
end Go.Proofs.YthafdegfjadijaaGreat
end
