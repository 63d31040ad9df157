/- What is drawn of a run: numbers, memories. No condition. -/
import Derived.Test.YtnomiclfiijniaaQS108
import Derived.Test.YtnomiclfiijniaaQS118
namespace Go.Proofs.Ytnomiclfiijniaa
set_option maxRecDepth 100000
set_option linter.unusedSimpArgs false
set_option linter.unusedVariables false
def NewC {α β:Type} [Enc β] [Dec β] [Inhabited β] [Tr α β] (H:Heap) (C:Nat) (code:List Byt) (a k:Int) (H':Heap) (x:α):Prop:=∃ a' s':Int,(a≤a'∧a'≤a + k)∧New (H.set C (rC code a' s')) H' x
set_option maxHeartbeats 8000000 in
theorem nums_own (H : Heap) (C : Nat) (code : List Byt) (hg : Enc.good code) (a s n : Int) (hc : H[C]? = some (rC code a s)) (h0 : 0 ≤ a) (h1 : a ≤ 100000) (hn : 0 ≤ n ∧ n ≤ 1000) :
    CallsD Try.prog 51 [.ptr C 3 0 0,.d (.int .i64 n)] H fun r H'=>∃ v:AS Int,r=v.v∧v.l.length=n.toNat∧(∀ x∈v.l,Enc.good x)∧NewC H C code a (20 * n) H' v:=by
  have lC:=(List.getElem?_eq_some_iff.1 hc).1
  refine calls_of Try.func51 en_51 rfl (of_decide_eq_true rfl) (W_run mixed ⟨[],[],[93],16,H.length,[0,1,4,5,7],[7]⟩ (fun _=>[]) (by kernel_rfl) ?_)
  simp only [Try.f51,stripX,stripOps,pickOps]
  simp [-V.flat,-V.one,one_int,one_bool,one_str,one_nilp,one_rp,one_nilsl,one_ro,one_cl,one_nilf,one_nili,one_ifc,one_ptr,one_sl,one_clo,flat_d,flat_ptr,flat_sl,flat_clo,flat_agg,retQ]
  refine W_loopH (α:=Nat × V × List Int × Int × Int × Heap) (fun b=>[(0,.ptr C 3 0 0),(1,.d (.int .i64 b.1)),(5,b.2.1)]) (fun b=>b.2.2.2.2.2)
    (fun b=>b.1≤n.toNat∧Gr H.length b.2.2.1 b.2.1 b.2.2.2.2.2∧Only [] (H.set C (rC code b.2.2.2.1 b.2.2.2.2.1)) b.2.2.2.2.2∧b.2.2.1.length=n.toNat - b.1∧(∀ x∈b.2.2.1,Enc.good x)∧(a≤b.2.2.2.1∧b.2.2.2.1≤a + 20 * (n - b.1))) (fun b=>b.1) (n.toNat,.d .nilsl,[],a,s,H) ?_ ⟨Nat.le_refl _,.inl ⟨rfl,rfl⟩,by show Only [] (H.set C (rC code a s)) H;rw [set_same hc];exact Only.refl _ _,by show 0=n.toNat - n.toNat;omega,fun x hx=>absurd hx List.not_mem_nil,by show a≤a;omega,by show a≤a + 20 * (n - (n.toNat:Int));omega⟩ ?_
  · simp [hn.1]
    try omega
  rintro ⟨m,v,l,a1,s1,G⟩ ⟨hm,hgr,ho,hl,hgl,ha1⟩
  simp only [] at hm hgr ho hl hgl ha1 ⊢
  have lG:=ho.len
  rw [List.length_set] at lG
  have gC:G[C]? = some (rC code a1 s1):=(ho.at_ C (by simpa using lC) List.not_mem_nil).trans (List.getElem?_set_self lC)
  have gl:=hgr
  by_cases hz:m=0
  · subst hz
    refine W_run mixed ⟨[],[],[93],16,H.length,[0,1,4,5,7],[7]⟩ (fun _=>[]) (by kernel_rfl) ?_
    simp only [stripX,stripOps,pickOps]
    simp [-V.flat,-V.one,one_int,one_bool,one_str,one_nilp,one_rp,one_nilsl,one_ro,one_cl,one_nilf,one_nili,one_ifc,one_ptr,one_sl,one_clo,flat_d,flat_ptr,flat_sl,flat_clo,flat_agg,retQ]
    have:=Gr.fin (H:=H.set C (rC code a1 s1)) (Q:=fun r' H'=>∃ v:AS Int,r'=v.v∧v.l.length=n.toNat∧(∀ (x:Int),x∈v.l→Enc.good x)∧NewC H C code a (20 * n) H' v) (by rw [List.length_set];exact gl) ho fun H' h'=>⟨⟨v,l⟩,rfl,by show l.length=_;omega,hgl,a1,s1,⟨by omega,by omega⟩,h'⟩
    rw [List.length_set] at this
    exact this
  · have hm0:(0:Int) < m:=by omega
    have hm1:0 < m:=by omega
    refine W_run mixed ⟨[],[],[93],16,H.length,[0,1,4,5,7],[7]⟩ (fun _=>[]) (by kernel_rfl) ?_
    simp only [stripX,stripOps,pickOps]
    simp [-V.flat,-V.one,one_int,one_bool,one_str,one_nilp,one_rp,one_nilsl,one_ro,one_cl,one_nilf,one_nili,one_ifc,one_ptr,one_sl,one_clo,flat_d,flat_ptr,flat_sl,flat_clo,flat_agg,hm0,hm1]
    rw [aft_call]
    refine (num_own G C code a1 s1 gC hg (by omega) (by omega)).mono ?_
    rintro r G1 ⟨x,rfl,hx,a2,s2,hb2,rfl⟩
    have wm:IntKind.i64.wrap ((m:Int) - 1)=((m - 1:Nat):Int):=by rw [wrap_id (by omega) (by omega)];omega
    have oo:Only [] (H.set C (rC code a2 s2)) (G.set C (rC code a2 s2)):=⟨by simpa using lG,fun j hj _=>by
      by_cases e:C=j
      · subst e;rw [List.getElem?_set_self (by omega),List.getElem?_set_self lC]
      · rw [List.getElem?_set_ne e,List.getElem?_set_ne e]
        have:=ho.at_ j (by simpa using hj) List.not_mem_nil
        rw [List.getElem?_set_ne e] at this;exact this⟩
    rcases hgr with ⟨rfl,rfl⟩ | ⟨id,rfl,hp,hi,hr⟩
    · simp [-V.flat,-V.one,one_int,one_bool,one_str,one_nilp,one_rp,one_nilsl,one_ro,one_cl,one_nilf,one_nili,one_ifc,one_ptr,one_sl,one_clo,flat_d,flat_ptr,flat_sl,flat_clo,flat_agg,wm]
      have:=Gr.new (n0:=H.length) (l:=[x]) (H:=G.set C (rC code a2 s2)) (P:=.row 1 [[.d (.int .i64 x)]]) (rows:=[[.d (.int .i64 x)]]) (n:=1) (by simp;omega) (by simp) rfl rfl
      rw [List.length_set] at this
      exact ⟨m - 1,_,[x],a2,s2,_,⟨by omega,this,only_more oo,by simp at hl ⊢;omega,fun y hy=>by rw [List.mem_singleton.1 hy];exact hx,by omega,by omega⟩,by omega,rfl,rfl,rfl⟩
    · have hid:=(List.getElem?_eq_some_iff.1 hr).1
      have hne:C ≠ id:=by omega
      have hr':∀ R:Heap,(G.set C (rC code a2 s2)++R)[id]? = some (.row 1 (rI l)):=fun R=>(List.getElem?_append_left (by simpa using hid)).trans ((List.getElem?_set_ne hne).trans hr)
      have hset:∀ (R:Heap) p,(G.set C (rC code a2 s2)++R).set id p=(G.set C (rC code a2 s2)).set id p++R:=fun R p=>List.set_append_left _ _ (by simpa using hid)
      simp [-V.flat,-V.one,one_int,one_bool,one_str,one_nilp,one_rp,one_nilsl,one_ro,one_cl,one_nilf,one_nili,one_ifc,one_ptr,one_sl,one_clo,flat_d,flat_ptr,flat_sl,flat_clo,flat_agg,wm,hr',hset]
      have:=Gr.new2 (n0:=H.length) (l:=l++[x]) (id:=id) (H:=G.set C (rC code a2 s2)) (P:=.row 1 [[.d (.int .i64 x)]]) (rows:=List.map (fun n=>[V.d (D.int IntKind.i64 n)]) l++[[V.d (D.int IntKind.i64 x)]]) (n:=l.length + 1) (by simp;omega) (by simp) (by simp) (by simp)
      rw [List.length_set] at this
      exact ⟨by omega,m - 1,_,l++[x],a2,s2,_,⟨by omega,this,only_dead oo (by simp;omega),by simp;omega,fun y hy=>by
        rcases List.mem_append.1 hy with h | h
        · exact hgl y h
        · rw [List.mem_singleton.1 h];exact hx,by omega,by omega⟩,by omega,rfl,rfl,rfl⟩
theorem decA_off {H:Heap} {id off n:Nat} {l:List Int} (h:H[id]? = some (.row 1 (rI l))) (hn:off + n=l.length):decA (α:=List Int) H (.sl id 1 off n)=(True,l.drop off):=by
  have hd:(Dec.dec (α:=List Int) H [.sl id 1 off n]).1∧(Dec.dec (α:=List Int) H [.sl id 1 off n]).2=l.drop off:=by
    have e:((rI l).drop off).take n=rI (l.drop off):=by
      rw [List.take_of_length_le (by simp;omega)];simp [rI]
    rw [dec_sl,h]
    simp only [e]
    refine ⟨⟨⟨rfl,trivial⟩,by simp;omega,fun r hr=>?_⟩, ?_⟩
    · obtain ⟨x,hx,rfl⟩:=List.mem_map.1 hr
      trivial
    · rw [rI,List.map_map]
      exact List.map_id' _
  exact Prod.ext (eq_true ⟨rfl,hd.1⟩) hd.2
theorem mem_own (H:Heap) (C:Nat) (code:List Byt) (hg:Enc.good code) (a s:Int) (hc:H[C]? = some (rC code a s)) (h0:0≤a) (h1:a≤100000) :
    CallsD Try.prog 52 [.ptr C 3 0 0] H fun r H'=>∃ (id off:Nat) (l:List Int) (a' s':Int),r=.sl id 1 off (8 - off)∧off≤1∧H.length≤id∧l.length=8∧H'[id]? = some (.row 1 (rI l))∧Only [] (H.set C (rC code a' s')) H'∧(a≤a'∧a'≤a + 200):=by
  have lC:=(List.getElem?_eq_some_iff.1 hc).1
  refine calls_of Try.func52 en_52 rfl (of_decide_eq_true rfl) (W_run mixed ⟨[],[],[51,63],11,H.length,[0,2,3,7],[7]⟩ (fun _=>[]) (by kernel_rfl) ?_)
  simp only [Try.f52,stripX,stripOps,pickOps]
  simp [-V.flat,-V.one,one_int,one_bool,one_str,one_nilp,one_rp,one_nilsl,one_ro,one_cl,one_nilf,one_nili,one_ifc,one_ptr,one_sl,one_clo,flat_d,flat_ptr,flat_sl,flat_clo,flat_agg]
  rw [aft_call]
  refine (nums_own H C code hg a s 8 hc h0 (by omega) (by omega)).mono ?_
  rintro v G ⟨⟨_,l⟩,rfl,hl,hgl,a1,s1,ha1,hn⟩
  replace hl:l.length=8:=hl
  obtain ⟨rv,rr,rn,ri⟩:=hn.own.row (by show 0 < l.length;omega)
  replace rv:v=.sl v.slId 1 0 l.length:=rv
  obtain ⟨id,hid⟩:∃ id,id=v.slId:=⟨_,rfl⟩
  rw [← hid,hl] at rv
  subst rv
  have gC:G[C]? = some (rC code a1 s1):=(hn.only.at_ C (by simpa using lC) List.not_mem_nil).trans (List.getElem?_set_self lC)
  have lG:=hn.only.len
  rw [List.length_set] at lG
  have hfr:H.length≤id:=by have:=hn.fresh id (by rw [ri];exact List.mem_cons_self);simpa using this
  have rr':G[id]? = some (.row 1 (rI l)):=rr
  simp [-V.flat,-V.one,one_int,one_bool,one_str,one_nilp,one_rp,one_nilsl,one_ro,one_cl,one_nilf,one_nili,one_ifc,one_ptr,one_sl,one_clo,flat_d,flat_ptr,flat_sl,flat_clo,flat_agg]
  rw [aft_call]
  refine (one_own G C code a1 s1 40 gC hg (by omega) (by omega)).mono ?_
  rintro r G1 ⟨b,rfl,a2,s2,hb2,rfl⟩
  have oo:Only [] (H.set C (rC code a2 s2)) (G.set C (rC code a2 s2)):=⟨by simpa using lG,fun j hj _=>by
    by_cases e:C=j
    · subst e;rw [List.getElem?_set_self (by omega),List.getElem?_set_self lC]
    · rw [List.getElem?_set_ne e,List.getElem?_set_ne e]
      have:=hn.only.at_ j (by simpa using hj) List.not_mem_nil
      rw [List.getElem?_set_ne e] at this;exact this⟩
  have r2:(G.set C (rC code a2 s2))[id]? = some (.row 1 (rI l)):=(List.getElem?_set_ne (by omega)).trans rr'
  cases b with
  | true =>
    simp [-V.flat,-V.one,one_int,one_bool,one_str,one_nilp,one_rp,one_nilsl,one_ro,one_cl,one_nilf,one_nili,one_ifc,one_ptr,one_sl,one_clo,flat_d,flat_ptr,flat_sl,flat_clo,flat_agg,r2,retQ]
    exact ⟨_,_,Fin.same (by simp;omega),id,1,rfl,by omega,hfr,l,hl,r2,a2,⟨s2,oo⟩,by omega,by omega⟩
  | false =>
    simp [-V.flat,-V.one,one_int,one_bool,one_str,one_nilp,one_rp,one_nilsl,one_ro,one_cl,one_nilf,one_nili,one_ifc,one_ptr,one_sl,one_clo,flat_d,flat_ptr,flat_sl,flat_clo,flat_agg,r2,retQ]
    exact ⟨_,_,Fin.same (by simp;omega),id,0,rfl,by omega,hfr,l,hl,r2,a2,⟨s2,oo⟩,by omega,by omega⟩
set_option maxHeartbeats 8000000 in
theorem drawRun_own (code:List Byt) (hg:Enc.good code) :
    CallsD Try.prog 18 [.d (dBytS code)] [] fun r H'=>∃ (A:AFunc) (v:AS Int) (id off:Nat) (l:List Int) (x:Int),r=.tup [.agg (Tr.cells A),v.v,.sl id 1 off (8 - off),.d (.int .i64 x)]∧Own H' A∧Own H' v∧H'[id]? = some (.row 1 (rI l))∧off≤1∧l.length=8∧v.l.length≤5∧(0≤x∧x≤201)∧Enc.good (Tr.era A):=by
  refine calls_of Try.func18 en_18 rfl (of_decide_eq_true rfl) (W_runS mixed [5] ⟨[],[],[37,51,52,53],27,0,[0,2,3,4,5,6,7,8,9],[]⟩ (fun | 5=>[1,2,3,0,4,5,6,7,8,9] | _=>[]) (by kernel_rfl) ?_)
  simp only [Try.f18,stripS,skip_cons,skip_nil,Nat.reduceBEq,Bool.or_false,Bool.or_self,Bool.or_true,Bool.true_or,cond_true,cond_false,stripX,stripOps,pickOps]
  simp [-V.flat,-V.one,one_int,one_bool,one_str,one_nilp,one_rp,one_nilsl,one_ro,one_cl,one_nilf,one_nili,one_ifc,one_ptr,one_sl,one_clo,flat_d,flat_ptr,flat_sl,flat_clo,flat_agg]
  rw [aft_call]
  refine (anyFn_own _ 1 code hg 0 0 rfl ⟨by decide,by decide⟩).mono ?_
  rintro r G1 ⟨A,a1,s1,rfl,hn1,hb1,hg1,hp1⟩
  have l1:2≤G1.length:=hn1.only.len
  have z1:G1[0]? = some (.row 2 [[V.d (.int .i64 0),V.d .nilsl]]):=hn1.only.at_ 0 (by simp) List.not_mem_nil
  have c1:G1[1]? = some (rC code a1 s1):=hn1.only.at_ 1 (by simp) List.not_mem_nil
  have one1:A.blocks_.v.one=true:=(AFunc.own_blocks_ hn1.own).ok.1.scl.2
  have fr1:∀ j∈ids A,2≤j:=fun j hj=>hn1.fresh j hj
  simp [-V.flat,-V.one,one_int,one_bool,one_str,one_nilp,one_rp,one_nilsl,one_ro,one_cl,one_nilf,one_nili,one_ifc,one_ptr,one_sl,one_clo,flat_d,flat_ptr,flat_sl,flat_clo,flat_agg,one1]
  rw [aft_call]
  obtain ⟨Ga,hGa⟩:∃ Ga,Ga=G1++[Place.row 2 [[V.d (D.int IntKind.i64 A.params_),A.blocks_.v]]]:=⟨_,rfl⟩
  rw [← hGa]
  have lGa:Ga.length=G1.length + 1:=by rw [hGa];simp
  have oldA:∀ j,j < G1.length→Ga[j]? = G1[j]?:=fun j hj=>by rw [hGa,List.getElem?_append_left hj]
  have fA:Ga[G1.length]? = some (.row 2 [[V.d (.int .i64 A.params_),A.blocks_.v]]):=by rw [hGa,List.getElem?_append_right (Nat.le_refl _)];simp
  refine (nums_own Ga 1 code hg a1 s1 A.params_ ((oldA 1 (by omega)).trans c1) (by omega) (by omega) (by omega)).mono ?_
  rintro v G2 ⟨⟨_,lv⟩,rfl,hlv,hgv,a2,s2,ha2,hn2⟩
  have l2:Ga.length≤G2.length:=by have:=hn2.only.len;simpa using this
  have old2:∀ j,j < Ga.length→j ≠ 1→G2[j]? = Ga[j]?:=fun j hj h1=>(hn2.only.at_ j (by simpa using hj) List.not_mem_nil).trans (List.getElem?_set_ne h1.symm)
  have c2:G2[1]? = some (rC code a2 s2):=(hn2.only.at_ 1 (by simp;omega) List.not_mem_nil).trans (List.getElem?_set_self (by omega))
  simp [-V.flat,-V.one,one_int,one_bool,one_str,one_nilp,one_rp,one_nilsl,one_ro,one_cl,one_nilf,one_nili,one_ifc,one_ptr,one_sl,one_clo,flat_d,flat_ptr,flat_sl,flat_clo,flat_agg]
  rw [aft_call]
  refine (mem_own G2 1 code hg a2 s2 c2 (by omega) (by omega)).mono ?_
  rintro r G3 ⟨id,off,l,a3,s3,rfl,hoff,hid,hl,hrow,ho3,ha3⟩
  have l3:G2.length≤G3.length:=by have:=ho3.len;simpa using this
  have old3:∀ j,j < G2.length→j ≠ 1→G3[j]? = G2[j]?:=fun j hj h1=>(ho3.at_ j (by simpa using hj) List.not_mem_nil).trans (List.getElem?_set_ne h1.symm)
  have c3:G3[1]? = some (rC code a3 s3):=(ho3.at_ 1 (by simp;omega) List.not_mem_nil).trans (List.getElem?_set_self (by omega))
  have f3:G3[G1.length]? = some (.row 2 [[V.d (.int .i64 A.params_),A.blocks_.v]]):=((old3 _ (by omega) (by omega)).trans (old2 _ (by omega) (by omega))).trans fA
  have z3:G3[0]? = some (.row 2 [[V.d (.int .i64 0),V.d .nilsl]]):=((old3 _ (by omega) (by omega)).trans (old2 _ (by omega) (by omega))).trans ((oldA 0 (by omega)).trans z1)
  simp [-V.flat,-V.one,one_int,one_bool,one_str,one_nilp,one_rp,one_nilsl,one_ro,one_cl,one_nilf,one_nili,one_ifc,one_ptr,one_sl,one_clo,flat_d,flat_ptr,flat_sl,flat_clo,flat_agg]
  have f3R:∀ R:Heap,(G3++R)[G1.length]? = some (.row 2 [[V.d (.int .i64 A.params_),A.blocks_.v]]):=fun R=>(List.getElem?_append_left (List.getElem?_eq_some_iff.1 f3).1).trans f3
  refine W_drawC mixed ⟨[],[],[37,51,52,53],27,0,[0,2,3,4,5,6,7,8,9],[]⟩ [0,1,2,3] [4,5] [6,7,8,9] (.alt 4 (.alt 5 .leaf .nil) .nil) (fun | 4=>[0] | 5=>[0] | _=>[]) [0,2,3,4,5,6,7,8,9,21,22,23,24,25,26] (by kernel_rfl) (by kernel_rfl) ?_
  simp only [stripOps,pickOps]
  simp [-V.flat,-V.one,one_int,one_bool,one_str,one_nilp,one_rp,one_nilsl,one_ro,one_cl,one_nilf,one_nili,one_ifc,one_ptr,one_sl,one_clo,flat_d,flat_ptr,flat_sl,flat_clo,flat_agg,f3,one1]
  refine denC_one ?_
  simp only [demC,stripOps,pickOps]
  simp [loadD,-V.flat,-V.one,one_int,one_bool,one_str,one_nilp,one_rp,one_nilsl,one_ro,one_cl,one_nilf,one_nili,one_ifc,one_ptr,one_sl,one_clo,flat_d,flat_ptr,flat_sl,flat_clo,flat_agg,f3,f3R]
  refine denC_one ?_
  simp only [demC,stripOps,pickOps]
  simp [loadD,-V.flat,-V.one,one_int,one_bool,one_str,one_nilp,one_rp,one_nilsl,one_ro,one_cl,one_nilf,one_nili,one_ifc,one_ptr,one_sl,one_clo,flat_d,flat_ptr,flat_sl,flat_clo,flat_agg,f3,f3R]
  rw [aft_call]
  obtain ⟨Gl,hGl⟩:∃ Gl,Gl=G3++[Place.row 1 (rI [0,1,2,3,10,200,200,201])]:=⟨_,rfl⟩
  have eGl:G3++[Place.row 1 [[V.d (D.int .i64 0)],[V.d (D.int .i64 1)],[V.d (D.int .i64 2)],[V.d (D.int .i64 3)],[V.d (D.int .i64 10)],[V.d (D.int .i64 200)],[V.d (D.int .i64 200)],[V.d (D.int .i64 201)]]]=Gl:=hGl.symm
  rw [eGl]
  have oldl:∀ j,j < G3.length→Gl[j]? = G3[j]?:=fun j hj=>by rw [hGl,List.getElem?_append_left hj]
  have lGl:Gl.length=G3.length + 1:=by rw [hGl];simp
  refine (among_own Gl 1 G3.length code a3 s3 [0,1,2,3,10,200,200,201] ((oldl 1 (by omega)).trans c3) hg (by omega) (by omega) (by rw [hGl,List.getElem?_append_right (Nat.le_refl _)];simp) (by omega) (by decide) (by decide)).mono ?_
  rintro r G5 ⟨x,rfl,hx,a5,s5,hb5,rfl⟩
  have hx2:0≤x∧x≤201:=by
    simp only [List.mem_cons,List.not_mem_nil,or_false] at hx
    omega
  have f5:(Gl.set 1 (rC code a5 s5))[G1.length]? = some (.row 2 [[V.d (.int .i64 A.params_),A.blocks_.v]]):=(List.getElem?_set_ne (by omega)).trans ((oldl _ (by omega)).trans f3)
  have z5:(Gl.set 1 (rC code a5 s5))[0]? = some (.row 2 [[V.d (.int .i64 0),V.d .nilsl]]):=(List.getElem?_set_ne (by omega)).trans ((oldl 0 (by omega)).trans z3)
  have fGl:Gl[G1.length]? = some (.row 2 [[V.d (.int .i64 A.params_),A.blocks_.v]]):=(oldl _ (by omega)).trans f3
  simp [loadD,-V.flat,-V.one,one_int,one_bool,one_str,one_nilp,one_rp,one_nilsl,one_ro,one_cl,one_nilf,one_nili,one_ifc,one_ptr,one_sl,one_clo,flat_d,flat_ptr,flat_sl,flat_clo,flat_agg,f3,f5,fGl]
  refine denC_leaf ?_
  simp only [stripOps,pickOps]
  simp [-V.flat,-V.one,one_int,one_bool,one_str,one_nilp,one_rp,one_nilsl,one_ro,one_cl,one_nilf,one_nili,one_ifc,one_ptr,one_sl,one_clo,flat_d,flat_ptr,flat_sl,flat_clo,flat_agg,f5,z5,one1,retQ]
  rw [List.getElem?_set_self (by simp;omega)]
  have getF:∀ j,j ≠ 0→j ≠ 1→((Gl.set 1 (rC code a5 s5)).set 0 (.row 2 [[V.d (.int .i64 A.params_),A.blocks_.v]]))[j]? = Gl[j]?:=fun j h0 h1=>(List.getElem?_set_ne (fun e=>h0 e.symm)).trans (List.getElem?_set_ne (fun e=>h1 e.symm))
  have e3:∀ j,j < G2.length→j ≠ 0→j ≠ 1→((Gl.set 1 (rC code a5 s5)).set 0 (.row 2 [[V.d (.int .i64 A.params_),A.blocks_.v]]))[j]? = G2[j]?:=fun j hj h0 h1=>(getF j h0 h1).trans ((oldl j (by omega)).trans (old3 j hj h1))
  have lf:((Gl.set 1 (rC code a5 s5)).set 0 (.row 2 [[V.d (.int .i64 A.params_),A.blocks_.v]])).length=Gl.length:=by simp
  have hidl:=(List.getElem?_eq_some_iff.1 hrow).1
  refine ⟨rfl,_,rfl,_,_,Fin.same (Nat.zero_le _),A,⟨v,lv⟩,id,off,l,x,rfl, ?_, ?_,(getF id (by omega) (by omega)).trans ((oldl id hidl).trans hrow),hoff,hl,by show lv.length≤5;have:lv.length=A.params_.toNat:=hlv;omega,hx2,hg1⟩
  · refine hn1.own.frame (S:=[0,1]) ⟨by rw [lf];omega,fun j hj hn=>?_⟩ fun j hj h=>by have:=fr1 j hj;simp at h;omega
    simp only [List.mem_cons,List.not_mem_nil,or_false,not_or] at hn
    exact (e3 j (by omega) hn.1 hn.2).trans ((old2 j (by omega) hn.2).trans (oldA j hj))
  · refine hn2.own.frame (S:=[0,1]) ⟨by rw [lf];omega,fun j hj hn=>?_⟩ fun j hj h=>by have:=hn2.fresh j hj;simp at h this;omega
    simp only [List.mem_cons,List.not_mem_nil,or_false,not_or] at hn
    exact e3 j hj hn.1 hn.2
theorem drawRun_p (code:List Byt) (hg:Enc.good code):PureP Try.prog 18 [.d (dBytS code)] fun r=>∃ (F:Func) (args mem:List Int) (x:Int),r=.tup [vFunc F,.d (dIntS args),.d (dIntS mem),.d (.int .i64 x)]∧Enc.good F∧args.length≤5∧mem.length≤8∧(0≤x∧x≤201):=by
  refine PureP.of_ownQ ((drawRun_own code hg).mono ?_)
  rintro r H' ⟨A,v,id,off,l,x,rfl,oA,oV,hr,ho,hl,hv,hx,hF⟩
  have d:=decA_off (off:=off) (n:=8 - off) hr (by omega)
  have e:Tr.era v=v.l:=era_ints v.l
  have rv:=Rd1.slice oV
  rw [e] at rv
  have rm:Rd1 H' (.sl id 1 off (8 - off)) (.d (dIntS (l.drop off))):=Rd1.dec (α:=List Int) (by rw [d];exact ⟨trivial,rfl⟩)
  exact ⟨_,⟨Tr.era A,v.l,l.drop off,x,rfl,hF,hv,by rw [List.length_drop];omega,hx⟩,Rd1.tup ⟨Rd1.aggs oA rfl,rv,rm,Rd1.d,trivial⟩⟩
set_option maxHeartbeats 8000000 in
theorem drawSame_p (code : List Byt) (hg : Enc.good code) : PureP Try.prog 25 [.d (dBytS code)] fun r => ∃ a b : Outcome, r = .tup [vOutcome a, vOutcome b] := by
  refine PureP.of_ownQ ?_
  refine calls_of Try.func25 en_25 rfl (of_decide_eq_true rfl) (W_runS mixed [7] ⟨[],[],[18,20,63],56,0,[0,2,3,4,5,6,7,8,10,12,47],[42,47]⟩ (fun | 7=>[0,1,2,3] | _=>[]) (by kernel_rfl) ?_)
  simp only [Try.f25,stripS,skip_cons,skip_nil,Nat.reduceBEq,Bool.or_false,Bool.or_self,Bool.or_true,Bool.true_or,cond_true,cond_false,stripX,stripOps,pickOps]
  simp [-V.flat,-V.one,one_int,one_bool,one_str,one_nilp,one_rp,one_nilsl,one_ro,one_cl,one_nilf,one_nili,one_ifc,one_ptr,one_sl,one_clo,flat_d,flat_ptr,flat_sl,flat_clo,flat_agg]
  rw [aft_call]
  refine ((drawRun_p code hg).calls rfl).mono ?_
  rintro r H1 ⟨rfl,F,args,mem,x,rfl,hF,ha,hm,hx⟩
  simp [-V.flat,-V.one,one_int,one_bool,one_str,one_nilp,one_rp,one_nilsl,one_ro,one_cl,one_nilf,one_nili,one_ifc,one_ptr,one_sl,one_clo,flat_d,flat_ptr,flat_sl,flat_clo,flat_agg]
  rw [aft_call]
  refine (runS_own _ F args mem x hF (by omega) (by omega)).mono ?_
  rintro r G1 ⟨oa,rfl,ea,hna⟩
  have l1:3≤G1.length:=hna.only.len
  have z0:G1[0]? = some (.row 4 [[.d (.int .i64 0),.d (.int .i64 0),.d .nilsl,.d (.int .i64 0)]]):=hna.only.at_ 0 (by simp) List.not_mem_nil
  have z1:G1[1]? = some (.row 4 [[.d (.int .i64 0),.d (.int .i64 0),.d .nilsl,.d (.int .i64 0)]]):=hna.only.at_ 1 (by simp) List.not_mem_nil
  have z2:G1[2]? = some (.row 2 [[.d (.int .i64 F.params_),.d (dBlockS F.blocks_)]]):=hna.only.at_ 2 (by simp) List.not_mem_nil
  have z2R:∀ R:Heap,(G1++R)[2]? = some (.row 2 [[.d (.int .i64 F.params_),.d (dBlockS F.blocks_)]]):=fun R=>(List.getElem?_append_left (by omega)).trans z2
  have onea:oa.mem_.v.one=true:=(AOutcome.own_mem_ hna.own).ok.1.scl.2
  have fla:oa.mem_.v.flat=[oa.mem_.v]:=(AOutcome.own_mem_ hna.own).ok.1.flat
  have fra:∀ j∈ids oa,3≤j:=fun j hj=>hna.fresh j hj
  simp [-V.flat,-V.one,one_int,one_bool,one_str,one_nilp,one_rp,one_nilsl,one_ro,one_cl,one_nilf,one_nili,one_ifc,one_ptr,one_sl,one_clo,flat_d,flat_ptr,flat_sl,flat_clo,flat_agg,onea,fla,z2R]
  rw [aft_call]
  obtain ⟨Ga,hGa⟩:∃ Ga,Ga=G1++[Place.row 4 [Tr.cells oa]]:=⟨_,rfl⟩
  have eGa:G1++[Place.row 4 [[V.d (.int .i64 oa.code_),V.d (.int .i64 oa.value_),oa.mem_.v,V.d (.int .i64 oa.fuel_)]]]=Ga:=hGa.symm
  rw [eGa]
  have lGa:Ga.length=G1.length + 1:=by rw [hGa];simp
  have oldA:∀ j,j < G1.length→Ga[j]? = G1[j]?:=fun j hj=>by rw [hGa,List.getElem?_append_left hj]
  refine (runS_own _ F args mem _ hF (by omega) (by omega)).mono ?_
  rintro r G2 ⟨ob,rfl,eb,hnb⟩
  have l2:Ga.length≤G2.length:=hnb.only.len
  have oneb:ob.mem_.v.one=true:=(AOutcome.own_mem_ hnb.own).ok.1.scl.2
  have flb:ob.mem_.v.flat=[ob.mem_.v]:=(AOutcome.own_mem_ hnb.own).ok.1.flat
  have frb:∀ j∈ids ob,Ga.length≤j:=fun j hj=>hnb.fresh j hj
  simp [-V.flat,-V.one,one_int,one_bool,one_str,one_nilp,one_rp,one_nilsl,one_ro,one_cl,one_nilf,one_nili,one_ifc,one_ptr,one_sl,one_clo,flat_d,flat_ptr,flat_sl,flat_clo,flat_agg,oneb,flb]
  rw [aft_call]
  obtain ⟨Gb,hGb⟩:∃ Gb,Gb=G2++[Place.row 4 [Tr.cells ob],rC code 0 0]:=⟨_,rfl⟩
  have eGb:G2++[Place.row 4 [[V.d (.int .i64 ob.code_),V.d (.int .i64 ob.value_),ob.mem_.v,V.d (.int .i64 ob.fuel_)]],Place.row 3 [[V.d (dBytS code),V.d (D.int IntKind.i64 0),V.d (D.int IntKind.u64 0)]]]=Gb:=hGb.symm
  rw [eGb]
  have lGb:Gb.length=G2.length + 2:=by rw [hGb];simp
  have oldB:∀ j,j < G2.length→Gb[j]? = G2[j]?:=fun j hj=>by rw [hGb,List.getElem?_append_left hj]
  refine (one_own Gb (G2.length + 1) code 0 0 8 (by rw [hGb,List.getElem?_append_right (by omega)];simp) hg (by decide) (by decide)).mono ?_
  rintro r G3 ⟨b,rfl,a3,s3,hb3,hG3⟩
  have lG3:G3.length=G2.length + 2:=by rw [hG3];simpa using lGb
  have old3:∀ j,j < G2.length→G3[j]? = G2[j]?:=fun j hj=>by rw [hG3,List.getElem?_set_ne (by omega)];exact oldB j hj
  have cb3:G3[G2.length]? = some (.row 4 [[V.d (.int .i64 ob.code_),V.d (.int .i64 ob.value_),ob.mem_.v,V.d (.int .i64 ob.fuel_)]]):=by rw [hG3,List.getElem?_set_ne (by omega),hGb,List.getElem?_append_right (Nat.le_refl _)];simp
  have ca3:G3[G1.length]? = some (.row 4 [[V.d (.int .i64 oa.code_),V.d (.int .i64 oa.value_),oa.mem_.v,V.d (.int .i64 oa.fuel_)]]):=by
    rw [old3 _ (by omega),hnb.only.at_ _ (by omega) List.not_mem_nil,hGa,List.getElem?_append_right (Nat.le_refl _)];simp
  have keep1:∀ j,j < G1.length→G3[j]? = G1[j]?:=fun j hj=>(old3 j (by omega)).trans ((hnb.only.at_ j (by omega) List.not_mem_nil).trans (oldA j hj))
  have y0:G3[0]? = some (.row 4 [[.d (.int .i64 0),.d (.int .i64 0),.d .nilsl,.d (.int .i64 0)]]):=(keep1 0 (by omega)).trans z0
  have y1:G3[1]? = some (.row 4 [[.d (.int .i64 0),.d (.int .i64 0),.d .nilsl,.d (.int .i64 0)]]):=(keep1 1 (by omega)).trans z1
  have oa3:Own G3 oa:=hna.own.frame (S:=[]) ⟨by omega,fun j hj _=>keep1 j hj⟩ fun j _ h=>absurd h List.not_mem_nil
  have ob3:Own G3 ob:=hnb.own.frame (S:=[]) ⟨by omega,fun j hj _=>old3 j hj⟩ fun j _ h=>absurd h List.not_mem_nil
  have lta:∀ j∈ids oa,j < G1.length:=fun j hj=>hna.own.lt hj
  have ltb:∀ j∈ids ob,j < G2.length:=fun j hj=>hnb.own.lt hj
  have fin:∀ (Gd:Heap) (ob':AOutcome),G3.length=Gd.length→Own Gd oa→Own Gd ob'→Tr.cells ob'=Tr.cells ob→ids ob'=ids ob→∃ r' H',Fin 0 ((Gd.set 0 (.row 4 [[V.d (.int .i64 oa.code_),V.d (.int .i64 oa.value_),oa.mem_.v,V.d (.int .i64 oa.fuel_)]])).set 1 (.row 4 [[V.d (.int .i64 ob.code_),V.d (.int .i64 ob.value_),ob.mem_.v,V.d (.int .i64 ob.fuel_)]]))
      (V.tup [V.agg [V.d (.int .i64 oa.code_),V.d (.int .i64 oa.value_),oa.mem_.v,V.d (.int .i64 oa.fuel_)],V.agg [V.d (.int .i64 ob.code_),V.d (.int .i64 ob.value_),ob.mem_.v,V.d (.int .i64 ob.fuel_)]]) H' r'∧∃ r0,(∃ a b,r0=V.tup [vOutcome a,vOutcome b])∧Rd1 H' r' r0:=fun Gd ob' hl h1 h2 h3 h4=>by
    have fr:∀ {P P':Place},Only [0,1] Gd ((Gd.set 0 P).set 1 P'):=fun {P P'}=>⟨by simp,fun j hj hn=>by
      simp only [List.mem_cons,List.not_mem_nil,or_false,not_or] at hn
      exact (List.getElem?_set_ne (fun e=>hn.2 e.symm)).trans (List.getElem?_set_ne (fun e=>hn.1 e.symm))⟩
    have k1:=h1.frame (fr (P:=.row 4 [[V.d (.int .i64 oa.code_),V.d (.int .i64 oa.value_),oa.mem_.v,V.d (.int .i64 oa.fuel_)]]) (P':=.row 4 [[V.d (.int .i64 ob.code_),V.d (.int .i64 ob.value_),ob.mem_.v,V.d (.int .i64 ob.fuel_)]])) fun j hj h=>by have:=fra j hj;simp at h;omega
    have k2:=h2.frame (fr (P:=.row 4 [[V.d (.int .i64 oa.code_),V.d (.int .i64 oa.value_),oa.mem_.v,V.d (.int .i64 oa.fuel_)]]) (P':=.row 4 [[V.d (.int .i64 ob.code_),V.d (.int .i64 ob.value_),ob.mem_.v,V.d (.int .i64 ob.fuel_)]])) fun j hj h=>by have:=frb j (h4 ▸ hj);simp at h;omega
    have r1:=Rd1.aggs k1 rfl
    have r2:=Rd1.aggs k2 rfl
    rw [h3] at r2
    exact ⟨_,_,Fin.same (Nat.zero_le _),_,⟨Tr.era oa,Tr.era ob',rfl⟩,Rd1.tup ⟨r1,r2,trivial⟩⟩
  cases b with
  | false =>
    simp [-V.flat,-V.one,one_int,one_bool,one_str,one_nilp,one_rp,one_nilsl,one_ro,one_cl,one_nilf,one_nili,one_ifc,one_ptr,one_sl,one_clo,flat_d,flat_ptr,flat_sl,flat_clo,flat_agg]
    have s1:∀ P,(G3.set 0 P)[1]? = some (.row 4 [[.d (.int .i64 0),.d (.int .i64 0),.d .nilsl,.d (.int .i64 0)]]):=fun P=>(List.getElem?_set_ne (by decide)).trans y1
    have s2:∀ P,(G3.set 0 P)[G2.length]? = some (.row 4 [[V.d (.int .i64 ob.code_),V.d (.int .i64 ob.value_),ob.mem_.v,V.d (.int .i64 ob.fuel_)]]):=fun P=>(List.getElem?_set_ne (by omega)).trans cb3
    have s3:∀ P P',((G3.set 0 P).set 1 P')[0]? = some P:=fun P P'=>(List.getElem?_set_ne (by decide)).trans (List.getElem?_set_self (by omega))
    have s4:∀ P P',((G3.set 0 P).set 1 P')[1]? = some P':=fun P P'=>List.getElem?_set_self (by rw [List.length_set];omega)
    refine W_drawC mixed ⟨[],[],[18,20,63],56,0,[0,2,3,4,5,6,7,8,10,12,47],[42,47]⟩ [0,1] [2,3] [] (.alt 2 (.alt 3 .leaf .nil) .nil) (fun | 2=>[1] | _=>[]) [0,2,3,4,5,6,7,8,10,12,47,54,55] (by kernel_rfl) (by kernel_rfl) ?_
    simp only [stripOps,pickOps]
    simp [denC,demC,loadD,stripOps,pickOps,-V.flat,-V.one,one_int,one_bool,one_str,one_nilp,one_rp,one_nilsl,one_ro,one_cl,one_nilf,one_nili,one_ifc,one_ptr,one_sl,one_clo,flat_d,flat_ptr,flat_sl,flat_clo,flat_agg,ca3,cb3,y0,y1,onea,oneb,fla,flb,s1,s2,s3,s4,retQ]
    exact fin G3 ob rfl oa3 ob3 rfl rfl
  | true =>
    rcases (AOutcome.own_mem_ ob3).ok.1 with hv | ⟨hl,hv | ⟨f,hv⟩⟩
    · by_cases hp:0 < ob.mem_.l.length
      · obtain ⟨rv,rr,rn,ri⟩:=(AOutcome.own_mem_ ob3).row hp
        have hid:ob.mem_.v.slId∈ids ob:=by
          have:ob.mem_.id∈ids ob.mem_:=by rw [ri];exact List.mem_cons_self
          exact this
        have hge:=frb _ hid
        have hlt:=ltb _ hid
        obtain ⟨n,hn⟩:∃ n,n=ob.mem_.v.slId:=⟨_,rfl⟩
        rw [← hn] at hv hge hlt
        have cb4:=cb3
        rw [hv] at cb4
        have rr':G3[n]? = some (.row 1 (rI ob.mem_.l)):=by rw [hn];exact rr
        simp [-V.flat,-V.one,one_int,one_bool,one_str,one_nilp,one_rp,one_nilsl,one_ro,one_cl,one_nilf,one_nili,one_ifc,one_ptr,one_sl,one_clo,flat_d,flat_ptr,flat_sl,flat_clo,flat_agg,cb4,rr',hp]
        obtain ⟨y,hy⟩:∃ y,y=IntKind.i64.wrap (ob.mem_.l[0] + 1):=⟨_,rfl⟩
        rw [← hy]
        obtain ⟨Gd,hGd⟩:∃ Gd,Gd=G3.set n (.row 1 ((List.map (fun n=>[V.d (D.int IntKind.i64 n)]) ob.mem_.l).set 0 [V.d (D.int IntKind.i64 y)])):=⟨_,rfl⟩
        rw [← hGd]
        have lGd:Gd.length=G3.length:=by rw [hGd];simp
        have dd:∀ j,j ≠ n→Gd[j]? = G3[j]?:=fun j hj=>by rw [hGd];exact List.getElem?_set_ne (fun e=>hj e.symm)
        have dn:Gd[n]? = some (.row 1 (rI (ob.mem_.l.set 0 y))):=by rw [hGd,List.getElem?_set_self (by omega),rI,List.map_set]
        have cad:=(dd G1.length (by omega)).trans ca3
        have cbd:=(dd G2.length (by omega)).trans cb3
        have y0d:=(dd 0 (by omega)).trans y0
        have y1d:=(dd 1 (by omega)).trans y1
        have s1:∀ P,(Gd.set 0 P)[1]? = some (.row 4 [[.d (.int .i64 0),.d (.int .i64 0),.d .nilsl,.d (.int .i64 0)]]):=fun P=>(List.getElem?_set_ne (by decide)).trans y1d
        have s2:∀ P,(Gd.set 0 P)[G2.length]? = some (.row 4 [[V.d (.int .i64 ob.code_),V.d (.int .i64 ob.value_),ob.mem_.v,V.d (.int .i64 ob.fuel_)]]):=fun P=>(List.getElem?_set_ne (by omega)).trans cbd
        have s3:∀ P P',((Gd.set 0 P).set 1 P')[0]? = some P:=fun P P'=>(List.getElem?_set_ne (by decide)).trans (List.getElem?_set_self (by omega))
        have s4:∀ P P',((Gd.set 0 P).set 1 P')[1]? = some P':=fun P P'=>List.getElem?_set_self (by rw [List.length_set];omega)
        refine W_drawC mixed ⟨[],[],[18,20,63],56,0,[0,2,3,4,5,6,7,8,10,12,47],[42,47]⟩ [0,1] [2,3] [] (.alt 2 (.alt 3 .leaf .nil) .nil) (fun | 2=>[1] | _=>[]) [0,2,3,4,5,6,7,8,10,12,47,54,55] (by kernel_rfl) (by kernel_rfl) ?_
        simp only [stripOps,pickOps]
        simp [denC,demC,loadD,stripOps,pickOps,-V.flat,-V.one,one_int,one_bool,one_str,one_nilp,one_rp,one_nilsl,one_ro,one_cl,one_nilf,one_nili,one_ifc,one_ptr,one_sl,one_clo,flat_d,flat_ptr,flat_sl,flat_clo,flat_agg,cad,cbd,y0d,y1d,onea,oneb,fla,flb,s1,s2,s3,s4,retQ]
        have hle:(ob.mem_.l.set 0 y).length=ob.mem_.l.length:=by simp
        refine fin Gd ⟨ob.code_,ob.value_,⟨.sl n 1 0 (ob.mem_.l.set 0 y).length,ob.mem_.l.set 0 y⟩,ob.fuel_⟩ lGd.symm (oa3.frame (S:=[n]) ⟨by omega,fun j hj h=>dd j (fun e=>h (by simp [e]))⟩ fun j hj h=>by have:=lta j hj;simp at h;omega) (AOutcome.own (own_row dn)) ?_ ?_
        · rw [cells_AOutcome,cells_AOutcome,hv,hle];rfl
        · show ids (⟨.sl n 1 0 (ob.mem_.l.set 0 y).length,ob.mem_.l.set 0 y⟩:AS Int)=ids ob.mem_
          rw [ids_row,ri,ids_ints,hn];rfl
      · have h0:ob.mem_.l.length=0:=by omega
        have cb4:=cb3
        rw [hv,h0] at cb4
        simp [-V.flat,-V.one,one_int,one_bool,one_str,one_nilp,one_rp,one_nilsl,one_ro,one_cl,one_nilf,one_nili,one_ifc,one_ptr,one_sl,one_clo,flat_d,flat_ptr,flat_sl,flat_clo,flat_agg,cb4]
        have s1:∀ P,(G3.set 0 P)[1]? = some (.row 4 [[.d (.int .i64 0),.d (.int .i64 0),.d .nilsl,.d (.int .i64 0)]]):=fun P=>(List.getElem?_set_ne (by decide)).trans y1
        have s2:∀ P,(G3.set 0 P)[G2.length]? = some (.row 4 [[V.d (.int .i64 ob.code_),V.d (.int .i64 ob.value_),ob.mem_.v,V.d (.int .i64 ob.fuel_)]]):=fun P=>(List.getElem?_set_ne (by omega)).trans cb3
        have s3:∀ P P',((G3.set 0 P).set 1 P')[0]? = some P:=fun P P'=>(List.getElem?_set_ne (by decide)).trans (List.getElem?_set_self (by omega))
        have s4:∀ P P',((G3.set 0 P).set 1 P')[1]? = some P':=fun P P'=>List.getElem?_set_self (by rw [List.length_set];omega)
        refine W_drawC mixed ⟨[],[],[18,20,63],56,0,[0,2,3,4,5,6,7,8,10,12,47],[42,47]⟩ [0,1] [2,3] [] (.alt 2 (.alt 3 .leaf .nil) .nil) (fun | 2=>[1] | _=>[]) [0,2,3,4,5,6,7,8,10,12,47,54,55] (by kernel_rfl) (by kernel_rfl) ?_
        simp only [stripOps,pickOps]
        simp [denC,demC,loadD,stripOps,pickOps,-V.flat,-V.one,one_int,one_bool,one_str,one_nilp,one_rp,one_nilsl,one_ro,one_cl,one_nilf,one_nili,one_ifc,one_ptr,one_sl,one_clo,flat_d,flat_ptr,flat_sl,flat_clo,flat_agg,ca3,cb3,y0,y1,onea,oneb,fla,flb,s1,s2,s3,s4,retQ]
        exact fin G3 ob rfl oa3 ob3 rfl rfl
    · have cb4:=cb3
      rw [hv] at cb4
      simp [-V.flat,-V.one,one_int,one_bool,one_str,one_nilp,one_rp,one_nilsl,one_ro,one_cl,one_nilf,one_nili,one_ifc,one_ptr,one_sl,one_clo,flat_d,flat_ptr,flat_sl,flat_clo,flat_agg,cb4]
      have s1:∀ P,(G3.set 0 P)[1]? = some (.row 4 [[.d (.int .i64 0),.d (.int .i64 0),.d .nilsl,.d (.int .i64 0)]]):=fun P=>(List.getElem?_set_ne (by decide)).trans y1
      have s2:∀ P,(G3.set 0 P)[G2.length]? = some (.row 4 [[V.d (.int .i64 ob.code_),V.d (.int .i64 ob.value_),ob.mem_.v,V.d (.int .i64 ob.fuel_)]]):=fun P=>(List.getElem?_set_ne (by omega)).trans cb3
      have s3:∀ P P',((G3.set 0 P).set 1 P')[0]? = some P:=fun P P'=>(List.getElem?_set_ne (by decide)).trans (List.getElem?_set_self (by omega))
      have s4:∀ P P',((G3.set 0 P).set 1 P')[1]? = some P':=fun P P'=>List.getElem?_set_self (by rw [List.length_set];omega)
      refine W_drawC mixed ⟨[],[],[18,20,63],56,0,[0,2,3,4,5,6,7,8,10,12,47],[42,47]⟩ [0,1] [2,3] [] (.alt 2 (.alt 3 .leaf .nil) .nil) (fun | 2=>[1] | _=>[]) [0,2,3,4,5,6,7,8,10,12,47,54,55] (by kernel_rfl) (by kernel_rfl) ?_
      simp only [stripOps,pickOps]
      simp [denC,demC,loadD,stripOps,pickOps,-V.flat,-V.one,one_int,one_bool,one_str,one_nilp,one_rp,one_nilsl,one_ro,one_cl,one_nilf,one_nili,one_ifc,one_ptr,one_sl,one_clo,flat_d,flat_ptr,flat_sl,flat_clo,flat_agg,ca3,cb3,y0,y1,onea,oneb,fla,flb,s1,s2,s3,s4,retQ]
      exact fin G3 ob rfl oa3 ob3 rfl rfl
    · have cb4:=cb3
      rw [hv] at cb4
      simp [-V.flat,-V.one,one_int,one_bool,one_str,one_nilp,one_rp,one_nilsl,one_ro,one_cl,one_nilf,one_nili,one_ifc,one_ptr,one_sl,one_clo,flat_d,flat_ptr,flat_sl,flat_clo,flat_agg,cb4]
      have s1:∀ P,(G3.set 0 P)[1]? = some (.row 4 [[.d (.int .i64 0),.d (.int .i64 0),.d .nilsl,.d (.int .i64 0)]]):=fun P=>(List.getElem?_set_ne (by decide)).trans y1
      have s2:∀ P,(G3.set 0 P)[G2.length]? = some (.row 4 [[V.d (.int .i64 ob.code_),V.d (.int .i64 ob.value_),ob.mem_.v,V.d (.int .i64 ob.fuel_)]]):=fun P=>(List.getElem?_set_ne (by omega)).trans cb3
      have s3:∀ P P',((G3.set 0 P).set 1 P')[0]? = some P:=fun P P'=>(List.getElem?_set_ne (by decide)).trans (List.getElem?_set_self (by omega))
      have s4:∀ P P',((G3.set 0 P).set 1 P')[1]? = some P':=fun P P'=>List.getElem?_set_self (by rw [List.length_set];omega)
      refine W_drawC mixed ⟨[],[],[18,20,63],56,0,[0,2,3,4,5,6,7,8,10,12,47],[42,47]⟩ [0,1] [2,3] [] (.alt 2 (.alt 3 .leaf .nil) .nil) (fun | 2=>[1] | _=>[]) [0,2,3,4,5,6,7,8,10,12,47,54,55] (by kernel_rfl) (by kernel_rfl) ?_
      simp only [stripOps,pickOps]
      simp [denC,demC,loadD,stripOps,pickOps,-V.flat,-V.one,one_int,one_bool,one_str,one_nilp,one_rp,one_nilsl,one_ro,one_cl,one_nilf,one_nili,one_ifc,one_ptr,one_sl,one_clo,flat_d,flat_ptr,flat_sl,flat_clo,flat_agg,ca3,cb3,y0,y1,onea,oneb,fla,flb,s1,s2,s3,s4,retQ]
      exact fin G3 ob rfl oa3 ob3 rfl rfl
end Go.Proofs.Ytnomiclfiijniaa
