/- Contracts of the laws' helpers that weigh, copy and compare what is handed over. Written by a program. No condition. -/
import Derived.Test.YtbacilgolfojaaaDoorChecked
import Derived.KernelRfl
import Derived.Test.YtbacilgolfojaaaDoorQE2
import Derived.Test.YtbacilgolfojaaaDoorQDat
section
namespace Go.Proofs.YtbacilgolfojaaaDoor
@[simp] theorem ti_1:tinfo Tryd.prog 1=some ⟨false,1,8,[.nilf],.fn⟩:=by kernel_rfl
@[simp] theorem ti_2:tinfo Tryd.prog 2=some ⟨false,1,8,[.int .i64 0],.int .i64⟩:=by kernel_rfl
@[simp] theorem ti_3:tinfo Tryd.prog 3=some ⟨false,1,8,[.int .i64 0],.int .i64⟩:=by kernel_rfl
@[simp] theorem ti_4:tinfo Tryd.prog 4=some ⟨false,1,1,[.bool false],.bool⟩:=by kernel_rfl
@[simp] theorem ti_5:tinfo Tryd.prog 5=some ⟨false,1,1,[.int .u8 0],.int .u8⟩:=by kernel_rfl
@[simp] theorem ti_9:tinfo Tryd.prog 9=some ⟨false,1,16,[.str ⟨#[]⟩],.str⟩:=by kernel_rfl
@[simp] theorem ti_12:tinfo Tryd.prog 12=some ⟨false,1,8,[.int .u64 0],.int .u64⟩:=by kernel_rfl
@[simp] theorem ti_20:tinfo Tryd.prog 20=some ⟨false,1,16,[.nili],.iface⟩:=by kernel_rfl
@[simp] theorem ti_21:tinfo Tryd.prog 21=some ⟨false,1,4,[.int .i32 0],.int .i32⟩:=by kernel_rfl
@[simp] theorem ti_22:tinfo Tryd.prog 22=some ⟨false,1,24,[.nilsl],.slice 44⟩:=by kernel_rfl
@[simp] theorem ti_23:tinfo Tryd.prog 23=some ⟨false,1,8,[.nilf],.fn⟩:=by kernel_rfl
@[simp] theorem ti_25:tinfo Tryd.prog 25=some ⟨false,1,8,[.nilf],.fn⟩:=by kernel_rfl
@[simp] theorem ti_26:tinfo Tryd.prog 26=some ⟨false,1,24,[.nilsl],.slice 42⟩:=by kernel_rfl
@[simp] theorem ti_27:tinfo Tryd.prog 27=some ⟨false,1,8,[.nilf],.fn⟩:=by kernel_rfl
@[simp] theorem ti_28:tinfo Tryd.prog 28=some ⟨false,1,8,[.nilf],.fn⟩:=by kernel_rfl
@[simp] theorem ti_29:tinfo Tryd.prog 29=some ⟨false,1,8,[.nilf],.fn⟩:=by kernel_rfl
@[simp] theorem ti_30:tinfo Tryd.prog 30=some ⟨true,2,48,[.nilsl,.nilsl],.struct [(0,22,1),(1,22,1)]⟩:=by kernel_rfl
@[simp] theorem ti_31:tinfo Tryd.prog 31=some ⟨true,2,48,[.nilsl,.nilsl],.struct [(0,22,1),(1,22,1)]⟩:=by kernel_rfl
@[simp] theorem ti_32:tinfo Tryd.prog 32=some ⟨false,1,8,[.nilf],.fn⟩:=by kernel_rfl
@[simp] theorem ti_33:tinfo Tryd.prog 33=some ⟨false,1,8,[.nilf],.fn⟩:=by kernel_rfl
@[simp] theorem ti_34:tinfo Tryd.prog 34=some ⟨true,2,48,[.nilsl,.nilsl],.struct [(0,26,1),(1,26,1)]⟩:=by kernel_rfl
@[simp] theorem ti_35:tinfo Tryd.prog 35=some ⟨true,2,48,[.nilsl,.nilsl],.struct [(0,26,1),(1,26,1)]⟩:=by kernel_rfl
@[simp] theorem ti_36:tinfo Tryd.prog 36=some ⟨false,1,8,[.nilf],.fn⟩:=by kernel_rfl
@[simp] theorem ti_37:tinfo Tryd.prog 37=some ⟨false,1,8,[.nilf],.fn⟩:=by kernel_rfl
@[simp] theorem ti_38:tinfo Tryd.prog 38=some ⟨false,1,8,[.nilf],.fn⟩:=by kernel_rfl
@[simp] theorem ti_39:tinfo Tryd.prog 39=some ⟨false,1,8,[.nilf],.fn⟩:=by kernel_rfl
@[simp] theorem ti_40:tinfo Tryd.prog 40=some ⟨false,1,8,[.nilf],.fn⟩:=by kernel_rfl
@[simp] theorem ti_41:tinfo Tryd.prog 41=some ⟨true,2,16,[.int .i64 0,.int .i64 0],.struct [(0,3,1),(1,2,1)]⟩:=by kernel_rfl
@[simp] theorem ti_42:tinfo Tryd.prog 42=some ⟨true,2,16,[.int .i64 0,.int .i64 0],.struct [(0,3,1),(1,2,1)]⟩:=by kernel_rfl
@[simp] theorem ti_43:tinfo Tryd.prog 43=some ⟨false,1,8,[.nilf],.fn⟩:=by kernel_rfl
@[simp] theorem ti_44:tinfo Tryd.prog 44=some ⟨true,2,16,[.int .i64 0,.int .i64 0],.struct [(0,3,1),(1,2,1)]⟩:=by kernel_rfl
@[simp] theorem ti_45:tinfo Tryd.prog 45=some ⟨false,1,8,[.nilp],.ptr⟩:=by kernel_rfl
@[simp] theorem ti_46:tinfo Tryd.prog 46=some ⟨false,1,8,[.nilf],.fn⟩:=by kernel_rfl
@[simp] theorem ti_47:tinfo Tryd.prog 47=some ⟨false,1,8,[.nilf],.fn⟩:=by kernel_rfl
@[simp] theorem ti_48:tinfo Tryd.prog 48=some ⟨false,1,8,[.nilf],.fn⟩:=by kernel_rfl
@[simp] theorem ti_49:tinfo Tryd.prog 49=some ⟨false,1,8,[.nilf],.fn⟩:=by kernel_rfl
@[simp] theorem ti_50:tinfo Tryd.prog 50=some ⟨false,1,8,[.nilf],.fn⟩:=by kernel_rfl
@[simp] theorem ti_51:tinfo Tryd.prog 51=some ⟨false,1,8,[.nilf],.fn⟩:=by kernel_rfl
@[simp] theorem ti_52:tinfo Tryd.prog 52=some ⟨false,1,8,[.nilf],.fn⟩:=by kernel_rfl
@[simp] theorem ti_53:tinfo Tryd.prog 53=some ⟨false,1,24,[.nilsl],.slice 5⟩:=by kernel_rfl
@[simp] theorem ti_54:tinfo Tryd.prog 54=some ⟨false,1,24,[.nilsl],.slice 3⟩:=by kernel_rfl
@[simp] theorem ti_55:tinfo Tryd.prog 55=some ⟨false,1,8,[.nilf],.fn⟩:=by kernel_rfl
@[simp] theorem ti_56:tinfo Tryd.prog 56=some ⟨false,1,8,[.nilf],.fn⟩:=by kernel_rfl
@[simp] theorem ti_57:tinfo Tryd.prog 57=some ⟨false,1,24,[.nilsl],.slice 45⟩:=by kernel_rfl
@[simp] theorem ti_58:tinfo Tryd.prog 58=some ⟨false,1,8,[.nilf],.fn⟩:=by kernel_rfl
@[simp] theorem ti_59:tinfo Tryd.prog 59=some ⟨true,3,40,[.int .i64 0,.int .i64 0,.nilsl],.struct [(0,3,1),(1,2,1),(2,57,1)]⟩:=by kernel_rfl
@[simp] theorem ti_60:tinfo Tryd.prog 60=some ⟨true,3,40,[.int .i64 0,.int .i64 0,.nilsl],.struct [(0,3,1),(1,2,1),(2,57,1)]⟩:=by kernel_rfl
@[simp] theorem ti_61:tinfo Tryd.prog 61=some ⟨false,1,8,[.nilf],.fn⟩:=by kernel_rfl
@[simp] theorem ti_62:tinfo Tryd.prog 62=some ⟨false,1,8,[.int .u64 0],.int .u64⟩:=by kernel_rfl
@[simp] theorem ti_63:tinfo Tryd.prog 63=some ⟨false,1,8,[.nilf],.fn⟩:=by kernel_rfl
@[simp] theorem ti_64:tinfo Tryd.prog 64=some ⟨false,1,8,[.nilf],.fn⟩:=by kernel_rfl
@[simp] theorem ti_65:tinfo Tryd.prog 65=some ⟨false,1,8,[.nilf],.fn⟩:=by kernel_rfl
@[simp] theorem ti_66:tinfo Tryd.prog 66=some ⟨false,1,8,[.nilf],.fn⟩:=by kernel_rfl
@[simp] theorem ti_67:tinfo Tryd.prog 67=some ⟨false,1,8,[.nilf],.fn⟩:=by kernel_rfl
@[simp] theorem ti_69:tinfo Tryd.prog 69=some ⟨false,1,8,[.nilf],.fn⟩:=by kernel_rfl
@[simp] theorem ti_70:tinfo Tryd.prog 70=some ⟨false,1,8,[.nilf],.fn⟩:=by kernel_rfl
@[simp] theorem ti_72:tinfo Tryd.prog 72=some ⟨false,1,8,[.nilf],.fn⟩:=by kernel_rfl
@[simp] theorem ti_73:tinfo Tryd.prog 73=some ⟨false,1,8,[.nilf],.fn⟩:=by kernel_rfl
@[simp] theorem ti_75:tinfo Tryd.prog 75=some ⟨false,1,4,[.int .u32 0],.int .u32⟩:=by kernel_rfl
@[simp] theorem ti_77:tinfo Tryd.prog 77=some ⟨false,1,8,[.int .u64 0],.int .u64⟩:=by kernel_rfl
@[simp] theorem ti_78:tinfo Tryd.prog 78=some ⟨false,1,8,[.nilf],.fn⟩:=by kernel_rfl
@[simp] theorem ti_79:tinfo Tryd.prog 79=some ⟨false,1,8,[.nilf],.fn⟩:=by kernel_rfl
@[simp] theorem ti_87:tinfo Tryd.prog 87=some ⟨false,1,8,[.nilf],.fn⟩:=by kernel_rfl
@[simp] theorem ti_90:tinfo Tryd.prog 90=some ⟨false,1,8,[.nilf],.fn⟩:=by kernel_rfl
@[simp] theorem ti_91:tinfo Tryd.prog 91=some ⟨false,1,8,[.nilp],.ptr⟩:=by kernel_rfl
@[simp] theorem ti_96:tinfo Tryd.prog 96=some ⟨false,1,8,[.nilf],.fn⟩:=by kernel_rfl
theorem en_4:enters Tryd.prog 4=true:=by kernel_rfl
theorem en_5:enters Tryd.prog 5=true:=by kernel_rfl
theorem en_7:enters Tryd.prog 7=true:=by kernel_rfl
theorem en_9:enters Tryd.prog 9=true:=by kernel_rfl
theorem en_10:enters Tryd.prog 10=true:=by kernel_rfl
theorem en_11:enters Tryd.prog 11=true:=by kernel_rfl
theorem en_12:enters Tryd.prog 12=true:=by kernel_rfl
theorem en_13:enters Tryd.prog 13=true:=by kernel_rfl
theorem en_14:enters Tryd.prog 14=true:=by kernel_rfl
theorem en_15:enters Tryd.prog 15=true:=by kernel_rfl
theorem en_16:enters Tryd.prog 16=true:=by kernel_rfl
theorem en_17:enters Tryd.prog 17=true:=by kernel_rfl
theorem en_18:enters Tryd.prog 18=true:=by kernel_rfl
theorem en_19:enters Tryd.prog 19=true:=by kernel_rfl
theorem en_20:enters Tryd.prog 20=true:=by kernel_rfl
theorem en_21:enters Tryd.prog 21=true:=by kernel_rfl
theorem en_22:enters Tryd.prog 22=true:=by kernel_rfl
theorem en_23:enters Tryd.prog 23=true:=by kernel_rfl
theorem en_24:enters Tryd.prog 24=true:=by kernel_rfl
theorem en_25:enters Tryd.prog 25=true:=by kernel_rfl
theorem en_26:enters Tryd.prog 26=true:=by kernel_rfl
theorem en_27:enters Tryd.prog 27=true:=by kernel_rfl
theorem en_28:enters Tryd.prog 28=true:=by kernel_rfl
theorem en_29:enters Tryd.prog 29=true:=by kernel_rfl
theorem en_30:enters Tryd.prog 30=true:=by kernel_rfl
theorem en_31:enters Tryd.prog 31=true:=by kernel_rfl
theorem en_32:enters Tryd.prog 32=true:=by kernel_rfl
theorem en_33:enters Tryd.prog 33=true:=by kernel_rfl
theorem en_34:enters Tryd.prog 34=true:=by kernel_rfl
theorem en_35:enters Tryd.prog 35=true:=by kernel_rfl
theorem en_36:enters Tryd.prog 36=true:=by kernel_rfl
theorem en_37:enters Tryd.prog 37=true:=by kernel_rfl
theorem en_38:enters Tryd.prog 38=true:=by kernel_rfl
theorem en_40:enters Tryd.prog 40=true:=by kernel_rfl
theorem en_41:enters Tryd.prog 41=true:=by kernel_rfl
end Go.Proofs.YtbacilgolfojaaaDoor
end

section
namespace Go.Proofs.YtbacilgolfojaaaDoor
set_option maxRecDepth 100000
set_option linter.unusedSimpArgs false
set_option linter.unusedVariables false
theorem mixed:Tryd.prog.follows .mixedOrders=true:=by kernel_rfl
def szNodeS (l:List Node) (left:Int):Int:=chk (IntKind.i64.wrap (left - l.length)) fun m=>m
theorem szNodeS_c (l:List Node) (left:Int):PureP Tryd.prog 5 [.d (dNodeS l),.d (.int .i64 left)] (· = .d (.int .i64 (szNodeS l left))):=by
  refine pure_of Tryd.func5 en_5 rfl rfl (W_run mixed ⟨[],[],[],12,0,[0,1,4,10],[10]⟩ (fun _=>[]) (by kernel_rfl) ?_)
  simp only [Tryd.f5,stripX,stripOps,pickOps]
  simp []
  exact ⟨fun h=>by simp only [szNodeS,chk_neg h],fun h=>by simp only [szNodeS,chk_pos h]⟩
noncomputable def K_5:Ent Tryd.prog:=Ent.p2 (α:=List Node) (β:=Int) 5 (fun a b=>Enc.good a) (fun a b=>.d (.int .i64 (szNodeS a b))) (fun a b hc=>szNodeS_c a b)
theorem K_5_f:K_5.f=5:=rfl
theorem K_5_e (a:List Node) (b:Int):K_5.e [.d (dNodeS a),.d (.int .i64 b)]=some (Enc.good a,.d (.int .i64 (szNodeS a b)),[]):=by unfold K_5;exact Ent.p2_eq (α:=List Node) (β:=Int) a b
noncomputable def K_5h:EntH Tryd.prog:=EntH.pk2 (α:=List Node) (β:=Int) 5 (fun a b=>Enc.good a) (fun a b=>.d (.int .i64 (szNodeS a b))) (fun a b=>[]) (fun a b hc=>PureP.ans (szNodeS_c a b))
theorem K_5h_f:K_5h.f=5:=rfl
theorem K_5h_g:K_5h.gro=true:=rfl
theorem K_5h_e {x1 x2:V} {H:Heap}:K_5h.e [x1,x2] H=guardR ((decA (α:=List Node) H x1).1∧(decA (α:=Int) H x2).1) (peekR (Enc.good (decA (α:=List Node) H x1).2) (.d (.int .i64 (szNodeS (decA (α:=List Node) H x1).2 (decA (α:=Int) H x2).2))) ([]) H):=rfl
def szRule (x:Rule) (left:Int):Int:=chk (szNodeS x.left_ left) fun m0=>chk (szNodeS x.right_ m0) fun m1=>m1
theorem szRule_c (x:Rule) (left:Int) (hx:Enc.good x):PureP Tryd.prog 10 [vRule x,.d (.int .i64 left)] (· = .d (.int .i64 (szRule x left))):=by
  have q0:Enc.good x.left_:=hx.1
  have q1:Enc.good x.right_:=hx.2
  refine pure_of Tryd.func10 en_10 rfl rfl (W_run mixed ⟨[K_5],[K_5h],[],18,0,[0,1,2,4,10,16],[10,16]⟩ (fun _=>[]) (by kernel_rfl) ?_)
  simp only [Tryd.f10,stripX,stripOps,pickOps]
  simp [K_5_f,K_5_e,K_5h_f,K_5h_e,K_5h_g,q0,q1]
  refine ⟨fun h0=>by simp only [szRule,chk_neg h0],fun h0=>?_⟩
  refine ⟨fun h1=>by simp only [szRule,chk_pos h0,chk_neg h1],fun h1=>?_⟩
  simp only [szRule,chk_pos h0,chk_pos h1]
noncomputable def K_10:Ent Tryd.prog:=Ent.p2 (α:=Rule) (β:=Int) 10 (fun a b=>Enc.good a) (fun a b=>.d (.int .i64 (szRule a b))) (fun a b hc=>szRule_c a b hc)
theorem K_10_f:K_10.f=10:=rfl
theorem K_10_e (a0:List Node) (a1:List Node) (b:Int):K_10.e [.agg [.d (dNodeS a0),.d (dNodeS a1)],.d (.int .i64 b)]=some (Enc.good (Rule.mk a0 a1),.d (.int .i64 (szRule (Rule.mk a0 a1) b)),[]):=by unfold K_10;exact Ent.p2_eq (α:=Rule) (β:=Int) (Rule.mk a0 a1) b
noncomputable def K_10h:EntH Tryd.prog:=EntH.pk2 (α:=Rule) (β:=Int) 10 (fun a b=>Enc.good a) (fun a b=>.d (.int .i64 (szRule a b))) (fun a b=>[]) (fun a b hc=>PureP.ans (szRule_c a b hc))
theorem K_10h_f:K_10h.f=10:=rfl
theorem K_10h_g:K_10h.gro=true:=rfl
theorem K_10h_e {x1 x2:V} {H:Heap}:K_10h.e [x1,x2] H=guardR ((decA (α:=Rule) H x1).1∧(decA (α:=Int) H x2).1) (peekR (Enc.good (decA (α:=Rule) H x1).2) (.d (.int .i64 (szRule (decA (α:=Rule) H x1).2 (decA (α:=Int) H x2).2))) ([]) H):=rfl
theorem toNode_c (x:Node) (hx:Sm.sm x):PureP Tryd.prog 17 [vNode x] (· = vNode x):=by
  refine pure_of Tryd.func17 en_17 rfl rfl (W_run mixed ⟨[],[],[],11,0,[0,1,2,3],[]⟩ (fun _=>[]) (by kernel_rfl) ?_)
  simp only [Tryd.f17,stripX,stripOps,pickOps]
  simp []
noncomputable def K_17:Ent Tryd.prog:=Ent.p1 (α:=Node) 17 (fun a=>Sm.sm a) (fun a=>vNode a) (fun a hc=>toNode_c a hc)
theorem K_17_f:K_17.f=17:=rfl
theorem K_17_e (a0:Int) (a1:Int):K_17.e [.agg [.d (.int .i64 a0),.d (.int .i64 a1)]]=some (Sm.sm (Node.mk a0 a1),vNode (Node.mk a0 a1),[]):=by unfold K_17;exact Ent.p1_eq (α:=Node) (Node.mk a0 a1)
noncomputable def K_17h:EntH Tryd.prog:=EntH.pk1 (α:=Node) 17 (fun a=>Sm.sm a) (fun a=>vNode a) (fun a=>[]) (fun a hc=>PureP.ans (toNode_c a hc))
theorem K_17h_f:K_17h.f=17:=rfl
theorem K_17h_g:K_17h.gro=true:=rfl
theorem K_17h_e {x1:V} {H:Heap}:K_17h.e [x1] H=guardR ((decA (α:=Node) H x1).1) (peekR (Sm.sm (decA (α:=Node) H x1).2) (vNode (decA (α:=Node) H x1).2) ([]) H):=rfl
theorem toNodeS_c (l:List Node) (hl:Sm.sm l):PureP Tryd.prog 7 [.d (dNodeS l)] (· = .d (dNodeS l)):=by
  have hlen:=small_len hl
  have hg:=small_get hl
  refine PureP.ro (pure_of Tryd.func7 en_7 rfl rfl (W_run mixed ⟨[K_17],[K_17h],[],23,0,[0,2,3,4,11],[11]⟩ (fun _=>[]) (by kernel_rfl) ?_))
  simp only [Tryd.f7,stripX,stripOps,pickOps]
  simp [K_17_f,K_17_e,K_17h_f,K_17h_e,K_17h_g]
  rw [fillR_zero _ (fun j=>[.d (.int .i64 (l[j]?.getD default).op_),.d (.int .i64 (l[j]?.getD default).n_)])]
  refine ⟨by omega,W_loopA (fun a:Nat=>[(0,.d (dNodeS l)),(3,.sl 0 2 0 l.length),(4,.d (.int .i64 a))]) (fun a=>[.row 2 (fillR l.length a (fun j=>[.d (.int .i64 (l[j]?.getD default).op_),.d (.int .i64 (l[j]?.getD default).n_)]) [.d (.int .i64 0),.d (.int .i64 0)])]) (fun a=>a≤l.length) (fun a=>l.length - a) 0 ?_ ?_ ?_⟩
  · simp
    exact fillR_under (by simp) (by simp)
  · simp
  · intro i hi
    refine W_run mixed ⟨[K_17],[K_17h],[],23,0,[0,2,3,4,11],[11]⟩ (fun _=>[]) (by kernel_rfl) ?_
    simp only [stripX,stripOps,pickOps]
    simp [K_17_f,K_17_e,K_17h_f,K_17h_e,K_17h_g,hg]
    refine ⟨fun h=>⟨h,i + 1,by omega,by omega, ?_,fillR_under (by simp) (by simp),by rw [wrap_id] <;> omega⟩,fun h j k hj hk=>?_⟩
    · exact fillR_set _ _ _ _ h
    · have e:i=l.length:=by omega
      subst e
      rw [fillR_done _ _ _ hj]
      rcases (by omega:k=0∨k=1) with rfl | rfl <;> simp
noncomputable def K_7:Ent Tryd.prog:=Ent.p1 (α:=List Node) 7 (fun a=>Sm.sm a) (fun a=>.d (dNodeS a)) (fun a hc=>toNodeS_c a hc)
theorem K_7_f:K_7.f=7:=rfl
theorem K_7_e (a:List Node):K_7.e [.d (dNodeS a)]=some (Sm.sm a,.d (dNodeS a),[]):=by unfold K_7;exact Ent.p1_eq (α:=List Node) a
noncomputable def K_7h:EntH Tryd.prog:=EntH.pk1 (α:=List Node) 7 (fun a=>Sm.sm a) (fun a=>.d (dNodeS a)) (fun a=>[]) (fun a hc=>PureP.ans (toNodeS_c a hc))
theorem K_7h_f:K_7h.f=7:=rfl
theorem K_7h_g:K_7h.gro=true:=rfl
theorem K_7h_e {x1:V} {H:Heap}:K_7h.e [x1] H=guardR ((decA (α:=List Node) H x1).1) (peekR (Sm.sm (decA (α:=List Node) H x1).2) (.d (dNodeS (decA (α:=List Node) H x1).2)) ([]) H):=rfl
theorem toRule_c (x:Rule) (hx:Sm.sm x):PureP Tryd.prog 12 [vRule x] (· = vRule x):=by
  have q0:Sm.sm x.left_:=hx.1
  have q1:Sm.sm x.right_:=hx.2
  refine pure_of Tryd.func12 en_12 rfl rfl (W_run mixed ⟨[K_7],[K_7h],[],13,0,[0,1,2,3],[]⟩ (fun _=>[]) (by kernel_rfl) ?_)
  simp only [Tryd.f12,stripX,stripOps,pickOps]
  simp [K_7_f,K_7_e,K_7h_f,K_7h_e,K_7h_g,q0,q1]
noncomputable def K_12:Ent Tryd.prog:=Ent.p1 (α:=Rule) 12 (fun a=>Sm.sm a) (fun a=>vRule a) (fun a hc=>toRule_c a hc)
theorem K_12_f:K_12.f=12:=rfl
theorem K_12_e (a0:List Node) (a1:List Node):K_12.e [.agg [.d (dNodeS a0),.d (dNodeS a1)]]=some (Sm.sm (Rule.mk a0 a1),vRule (Rule.mk a0 a1),[]):=by unfold K_12;exact Ent.p1_eq (α:=Rule) (Rule.mk a0 a1)
noncomputable def K_12h:EntH Tryd.prog:=EntH.pk1 (α:=Rule) 12 (fun a=>Sm.sm a) (fun a=>vRule a) (fun a=>[]) (fun a hc=>PureP.ans (toRule_c a hc))
theorem K_12h_f:K_12h.f=12:=rfl
theorem K_12h_g:K_12h.gro=true:=rfl
theorem K_12h_e {x1:V} {H:Heap}:K_12h.e [x1] H=guardR ((decA (α:=Rule) H x1).1) (peekR (Sm.sm (decA (α:=Rule) H x1).2) (vRule (decA (α:=Rule) H x1).2) ([]) H):=rfl
theorem eqNode_c (x:Node) (hx:Sm.sm x):PureP Tryd.prog 20 [vNode x,vNode x] (· = .d (.bool true)):=by
  refine pure_of Tryd.func20 en_20 rfl rfl (W_run mixed ⟨[],[],[],15,0,[0,1,2,3,4,9,14],[9,14]⟩ (fun _=>[]) (by kernel_rfl) ?_)
  simp only [Tryd.f20,stripX,stripOps,pickOps]
  simp []
noncomputable def K_20:Ent Tryd.prog:=Ent.p2 (α:=Node) (β:=Node) 20 (fun a b=>Sm.sm a∧a=b) (fun a b=>.d (.bool true)) (fun a b hc=>(by obtain ⟨h1,rfl⟩:=hc;exact eqNode_c a h1))
theorem K_20_f:K_20.f=20:=rfl
theorem K_20_e (a0:Int) (a1:Int) (b0:Int) (b1:Int):K_20.e [.agg [.d (.int .i64 a0),.d (.int .i64 a1)],.agg [.d (.int .i64 b0),.d (.int .i64 b1)]]=some (Sm.sm (Node.mk a0 a1)∧(Node.mk a0 a1)=(Node.mk b0 b1),.d (.bool true),[]):=by unfold K_20;exact Ent.p2_eq (α:=Node) (β:=Node) (Node.mk a0 a1) (Node.mk b0 b1)
noncomputable def K_20h:EntH Tryd.prog:=EntH.pk2 (α:=Node) (β:=Node) 20 (fun a b=>Sm.sm a∧a=b) (fun a b=>.d (.bool true)) (fun a b=>[]) (fun a b hc=>PureP.ans ((by obtain ⟨h1,rfl⟩:=hc;exact eqNode_c a h1)))
theorem K_20h_f:K_20h.f=20:=rfl
theorem K_20h_g:K_20h.gro=true:=rfl
theorem K_20h_e {x1 x2:V} {H:Heap}:K_20h.e [x1,x2] H=guardR ((decA (α:=Node) H x1).1∧(decA (α:=Node) H x2).1) (peekR (Sm.sm (decA (α:=Node) H x1).2∧(decA (α:=Node) H x1).2=(decA (α:=Node) H x2).2) (.d (.bool true)) ([]) H):=rfl
theorem eqNodeS_c (l:List Node) (hl:Sm.sm l):PureP Tryd.prog 9 [.d (dNodeS l),.d (dNodeS l)] (· = .d (.bool true)):=by
  have hlen:=small_len hl
  have hg:=small_get hl
  refine pure_of Tryd.func9 en_9 rfl rfl (W_run mixed ⟨[K_20],[K_20h],[],27,0,[0,1,4,5,10,14,26],[10,14,26]⟩ (fun | 6=>[0,1,2,4,5,6,3,7,8,9] | _=>[]) (by kernel_rfl) ?_)
  simp only [Tryd.f9,stripX,stripOps,pickOps]
  simp [K_20_f,K_20_e,K_20h_f,K_20h_e,K_20h_g]
  refine W_loopA (fun a:Nat=>[(0,.d (dNodeS l)),(1,.d (dNodeS l)),(5,.d (.int .i64 a))]) (fun _=>[]) (fun a=>a≤l.length) (fun a=>l.length - a) 0 ?_ ?_ ?_
  · simp
  · simp
  · intro i hi
    refine W_run mixed ⟨[K_20],[K_20h],[],27,0,[0,1,4,5,10,14,26],[10,14,26]⟩ (fun | 6=>[0,1,2,4,5,6,3,7,8,9] | _=>[]) (by kernel_rfl) ?_
    simp only [stripX,stripOps,pickOps]
    simp [K_20_f,K_20_e,K_20h_f,K_20h_e,K_20h_g,hg]
    intro h
    exact ⟨h,i + 1,by omega,by omega,by rw [wrap_id] <;> omega⟩
noncomputable def K_9:Ent Tryd.prog:=Ent.p2 (α:=List Node) (β:=List Node) 9 (fun a b=>Sm.sm a∧a=b) (fun a b=>.d (.bool true)) (fun a b hc=>(by obtain ⟨h1,rfl⟩:=hc;exact eqNodeS_c a h1))
theorem K_9_f:K_9.f=9:=rfl
theorem K_9_e (a:List Node) (b:List Node):K_9.e [.d (dNodeS a),.d (dNodeS b)]=some (Sm.sm a∧a=b,.d (.bool true),[]):=by unfold K_9;exact Ent.p2_eq (α:=List Node) (β:=List Node) a b
noncomputable def K_9h:EntH Tryd.prog:=EntH.pk2 (α:=List Node) (β:=List Node) 9 (fun a b=>Sm.sm a∧a=b) (fun a b=>.d (.bool true)) (fun a b=>[]) (fun a b hc=>PureP.ans ((by obtain ⟨h1,rfl⟩:=hc;exact eqNodeS_c a h1)))
theorem K_9h_f:K_9h.f=9:=rfl
theorem K_9h_g:K_9h.gro=true:=rfl
theorem K_9h_e {x1 x2:V} {H:Heap}:K_9h.e [x1,x2] H=guardR ((decA (α:=List Node) H x1).1∧(decA (α:=List Node) H x2).1) (peekR (Sm.sm (decA (α:=List Node) H x1).2∧(decA (α:=List Node) H x1).2=(decA (α:=List Node) H x2).2) (.d (.bool true)) ([]) H):=rfl
theorem eqRule_c (x:Rule) (hx:Sm.sm x):PureP Tryd.prog 14 [vRule x,vRule x] (· = .d (.bool true)):=by
  have q0:Sm.sm x.left_:=hx.1
  have q1:Sm.sm x.right_:=hx.2
  refine pure_of Tryd.func14 en_14 rfl rfl (W_run mixed ⟨[K_9],[K_9h],[],17,0,[0,1,2,3,4,10,16],[10,16]⟩ (fun _=>[]) (by kernel_rfl) ?_)
  simp only [Tryd.f14,stripX,stripOps,pickOps]
  simp [K_9_f,K_9_e,K_9h_f,K_9h_e,K_9h_g,q0,q1]
noncomputable def K_14:Ent Tryd.prog:=Ent.p2 (α:=Rule) (β:=Rule) 14 (fun a b=>Sm.sm a∧a=b) (fun a b=>.d (.bool true)) (fun a b hc=>(by obtain ⟨h1,rfl⟩:=hc;exact eqRule_c a h1))
theorem K_14_f:K_14.f=14:=rfl
theorem K_14_e (a0:List Node) (a1:List Node) (b0:List Node) (b1:List Node):K_14.e [.agg [.d (dNodeS a0),.d (dNodeS a1)],.agg [.d (dNodeS b0),.d (dNodeS b1)]]=some (Sm.sm (Rule.mk a0 a1)∧(Rule.mk a0 a1)=(Rule.mk b0 b1),.d (.bool true),[]):=by unfold K_14;exact Ent.p2_eq (α:=Rule) (β:=Rule) (Rule.mk a0 a1) (Rule.mk b0 b1)
noncomputable def K_14h:EntH Tryd.prog:=EntH.pk2 (α:=Rule) (β:=Rule) 14 (fun a b=>Sm.sm a∧a=b) (fun a b=>.d (.bool true)) (fun a b=>[]) (fun a b hc=>PureP.ans ((by obtain ⟨h1,rfl⟩:=hc;exact eqRule_c a h1)))
theorem K_14h_f:K_14h.f=14:=rfl
theorem K_14h_g:K_14h.gro=true:=rfl
theorem K_14h_e {x1 x2:V} {H:Heap}:K_14h.e [x1,x2] H=guardR ((decA (α:=Rule) H x1).1∧(decA (α:=Rule) H x2).1) (peekR (Sm.sm (decA (α:=Rule) H x1).2∧(decA (α:=Rule) H x1).2=(decA (α:=Rule) H x2).2) (.d (.bool true)) ([]) H):=rfl
end Go.Proofs.YtbacilgolfojaaaDoor
end
