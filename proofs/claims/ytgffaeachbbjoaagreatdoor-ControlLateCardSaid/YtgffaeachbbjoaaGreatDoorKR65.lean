import Derived.Test.YtgffaeachbbjoaaGreatDoorKR64
import Derived.Test.YtgffaeachbbjoaaGreatDoorProg
section
namespace Go.Proofs
open Go.Wx
theorem Tryz.en10 (args : Array Value) (w : World) : (callFunc 10 args).run Tryz.prog w = .ok (.enter 10 args) w := enters_fn Tryz.func10 (by kernel_rfl) rfl args w
theorem Tryz.en13 (args : Array Value) (w : World) : (callFunc 13 args).run Tryz.prog w = .ok (.enter 13 args) w := enters_fn Tryz.func13 (by kernel_rfl) rfl args w
theorem Tryz.en14 (args : Array Value) (w : World) : (callFunc 14 args).run Tryz.prog w = .ok (.enter 14 args) w := enters_fn Tryz.func14 (by kernel_rfl) rfl args w
theorem Tryz.en16 (args : Array Value) (w : World) : (callFunc 16 args).run Tryz.prog w = .ok (.enter 16 args) w := enters_fn Tryz.func16 (by kernel_rfl) rfl args w
theorem Tryz.en18 (args : Array Value) (w : World) : (callFunc 18 args).run Tryz.prog w = .ok (.enter 18 args) w := enters_fn Tryz.func18 (by kernel_rfl) rfl args w
theorem Tryz.en20 (args : Array Value) (w : World) : (callFunc 20 args).run Tryz.prog w = .ok (.enter 20 args) w := enters_fn Tryz.func20 (by kernel_rfl) rfl args w
theorem Tryz.en22 (args : Array Value) (w : World) : (callFunc 22 args).run Tryz.prog w = .ok (.enter 22 args) w := enters_fn Tryz.func22 (by kernel_rfl) rfl args w
theorem Tryz.en23 (args : Array Value) (w : World) : (callFunc 23 args).run Tryz.prog w = .ok (.enter 23 args) w := enters_fn Tryz.func23 (by kernel_rfl) rfl args w
theorem Tryz.en24 (args : Array Value) (w : World) : (callFunc 24 args).run Tryz.prog w = .ok (.enter 24 args) w := enters_fn Tryz.func24 (by kernel_rfl) rfl args w
theorem Tryz.en25 (args : Array Value) (w : World) : (callFunc 25 args).run Tryz.prog w = .ok (.enter 25 args) w := enters_fn Tryz.func25 (by kernel_rfl) rfl args w
theorem Tryz.en26 (args : Array Value) (w : World) : (callFunc 26 args).run Tryz.prog w = .ok (.enter 26 args) w := enters_fn Tryz.func26 (by kernel_rfl) rfl args w
theorem Tryz.en27 (args : Array Value) (w : World) : (callFunc 27 args).run Tryz.prog w = .ok (.enter 27 args) w := enters_fn Tryz.func27 (by kernel_rfl) rfl args w
theorem Tryz.en28 (args : Array Value) (w : World) : (callFunc 28 args).run Tryz.prog w = .ok (.enter 28 args) w := enters_fn Tryz.func28 (by kernel_rfl) rfl args w
theorem Tryz.en29 (args : Array Value) (w : World) : (callFunc 29 args).run Tryz.prog w = .ok (.enter 29 args) w := enters_fn Tryz.func29 (by kernel_rfl) rfl args w
theorem Tryz.en30 (args : Array Value) (w : World) : (callFunc 30 args).run Tryz.prog w = .ok (.enter 30 args) w := enters_fn Tryz.func30 (by kernel_rfl) rfl args w
theorem Tryz.en31 (args : Array Value) (w : World) : (callFunc 31 args).run Tryz.prog w = .ok (.enter 31 args) w := enters_fn Tryz.func31 (by kernel_rfl) rfl args w
theorem Tryz.en32 (args : Array Value) (w : World) : (callFunc 32 args).run Tryz.prog w = .ok (.enter 32 args) w := enters_fn Tryz.func32 (by kernel_rfl) rfl args w
theorem Tryz.en33 (args : Array Value) (w : World) : (callFunc 33 args).run Tryz.prog w = .ok (.enter 33 args) w := enters_fn Tryz.func33 (by kernel_rfl) rfl args w
theorem Tryz.en34 (args : Array Value) (w : World) : (callFunc 34 args).run Tryz.prog w = .ok (.enter 34 args) w := enters_fn Tryz.func34 (by kernel_rfl) rfl args w
theorem Tryz.en35 (args : Array Value) (w : World) : (callFunc 35 args).run Tryz.prog w = .ok (.enter 35 args) w := enters_fn Tryz.func35 (by kernel_rfl) rfl args w
theorem Tryz.en36 (args : Array Value) (w : World) : (callFunc 36 args).run Tryz.prog w = .ok (.enter 36 args) w := enters_fn Tryz.func36 (by kernel_rfl) rfl args w
theorem Tryz.en39 (args : Array Value) (w : World) : (callFunc 39 args).run Tryz.prog w = .ok (.enter 39 args) w := enters_fn Tryz.func39 (by kernel_rfl) rfl args w
theorem Tryz.en40 (args : Array Value) (w : World) : (callFunc 40 args).run Tryz.prog w = .ok (.enter 40 args) w := enters_fn Tryz.func40 (by kernel_rfl) rfl args w
theorem Tryz.en41 (args : Array Value) (w : World) : (callFunc 41 args).run Tryz.prog w = .ok (.enter 41 args) w := enters_fn Tryz.func41 (by kernel_rfl) rfl args w
theorem Tryz.en44 (args : Array Value) (w : World) : (callFunc 44 args).run Tryz.prog w = .ok (.enter 44 args) w := enters_fn Tryz.func44 (by kernel_rfl) rfl args w
theorem Tryz.en45 (args : Array Value) (w : World) : (callFunc 45 args).run Tryz.prog w = .ok (.enter 45 args) w := enters_fn Tryz.func45 (by kernel_rfl) rfl args w
theorem Tryz.en46 (args : Array Value) (w : World) : (callFunc 46 args).run Tryz.prog w = .ok (.enter 46 args) w := enters_fn Tryz.func46 (by kernel_rfl) rfl args w
theorem Tryz.en47 (args : Array Value) (w : World) : (callFunc 47 args).run Tryz.prog w = .ok (.enter 47 args) w := enters_fn Tryz.func47 (by kernel_rfl) rfl args w
theorem Tryz.en48 (args : Array Value) (w : World) : (callFunc 48 args).run Tryz.prog w = .ok (.enter 48 args) w := enters_fn Tryz.func48 (by kernel_rfl) rfl args w
theorem Tryz.en49 (args : Array Value) (w : World) : (callFunc 49 args).run Tryz.prog w = .ok (.enter 49 args) w := enters_fn Tryz.func49 (by kernel_rfl) rfl args w
theorem Tryz.en50 (args : Array Value) (w : World) : (callFunc 50 args).run Tryz.prog w = .ok (.enter 50 args) w := enters_fn Tryz.func50 (by kernel_rfl) rfl args w
theorem Tryz.en51 (args : Array Value) (w : World) : (callFunc 51 args).run Tryz.prog w = .ok (.enter 51 args) w := enters_fn Tryz.func51 (by kernel_rfl) rfl args w
theorem Tryz.en52 (args : Array Value) (w : World) : (callFunc 52 args).run Tryz.prog w = .ok (.enter 52 args) w := enters_fn Tryz.func52 (by kernel_rfl) rfl args w
theorem Tryz.en53 (args : Array Value) (w : World) : (callFunc 53 args).run Tryz.prog w = .ok (.enter 53 args) w := enters_fn Tryz.func53 (by kernel_rfl) rfl args w
theorem Tryz.en54 (args : Array Value) (w : World) : (callFunc 54 args).run Tryz.prog w = .ok (.enter 54 args) w := enters_fn Tryz.func54 (by kernel_rfl) rfl args w
theorem Tryz.en55 (args : Array Value) (w : World) : (callFunc 55 args).run Tryz.prog w = .ok (.enter 55 args) w := enters_fn Tryz.func55 (by kernel_rfl) rfl args w
theorem Tryz.en56 (args : Array Value) (w : World) : (callFunc 56 args).run Tryz.prog w = .ok (.enter 56 args) w := enters_fn Tryz.func56 (by kernel_rfl) rfl args w
theorem Tryz.en58 (args : Array Value) (w : World) : (callFunc 58 args).run Tryz.prog w = .ok (.enter 58 args) w := enters_fn Tryz.func58 (by kernel_rfl) rfl args w
theorem Tryz.en59 (args : Array Value) (w : World) : (callFunc 59 args).run Tryz.prog w = .ok (.enter 59 args) w := enters_fn Tryz.func59 (by kernel_rfl) rfl args w
theorem Tryz.en60 (args : Array Value) (w : World) : (callFunc 60 args).run Tryz.prog w = .ok (.enter 60 args) w := enters_fn Tryz.func60 (by kernel_rfl) rfl args w
theorem Tryz.en61 (args : Array Value) (w : World) : (callFunc 61 args).run Tryz.prog w = .ok (.enter 61 args) w := enters_fn Tryz.func61 (by kernel_rfl) rfl args w
theorem Tryz.en62 (args : Array Value) (w : World) : (callFunc 62 args).run Tryz.prog w = .ok (.enter 62 args) w := enters_fn Tryz.func62 (by kernel_rfl) rfl args w
theorem Tryz.en63 (args : Array Value) (w : World) : (callFunc 63 args).run Tryz.prog w = .ok (.enter 63 args) w := enters_fn Tryz.func63 (by kernel_rfl) rfl args w
theorem Tryz.en64 (args : Array Value) (w : World) : (callFunc 64 args).run Tryz.prog w = .ok (.enter 64 args) w := enters_fn Tryz.func64 (by kernel_rfl) rfl args w
theorem Tryz.en65 (args : Array Value) (w : World) : (callFunc 65 args).run Tryz.prog w = .ok (.enter 65 args) w := enters_fn Tryz.func65 (by kernel_rfl) rfl args w
theorem Tryz.en66 (args : Array Value) (w : World) : (callFunc 66 args).run Tryz.prog w = .ok (.enter 66 args) w := enters_fn Tryz.func66 (by kernel_rfl) rfl args w
theorem Tryz.en67 (args : Array Value) (w : World) : (callFunc 67 args).run Tryz.prog w = .ok (.enter 67 args) w := enters_fn Tryz.func67 (by kernel_rfl) rfl args w
theorem Tryz.en68 (args : Array Value) (w : World) : (callFunc 68 args).run Tryz.prog w = .ok (.enter 68 args) w := enters_fn Tryz.func68 (by kernel_rfl) rfl args w
theorem Tryz.en69 (args : Array Value) (w : World) : (callFunc 69 args).run Tryz.prog w = .ok (.enter 69 args) w := enters_fn Tryz.func69 (by kernel_rfl) rfl args w
theorem Tryz.en70 (args : Array Value) (w : World) : (callFunc 70 args).run Tryz.prog w = .ok (.enter 70 args) w := enters_fn Tryz.func70 (by kernel_rfl) rfl args w
theorem Tryz.en71 (args : Array Value) (w : World) : (callFunc 71 args).run Tryz.prog w = .ok (.enter 71 args) w := enters_fn Tryz.func71 (by kernel_rfl) rfl args w
theorem Tryz.en72 (args : Array Value) (w : World) : (callFunc 72 args).run Tryz.prog w = .ok (.enter 72 args) w := enters_fn Tryz.func72 (by kernel_rfl) rfl args w
theorem Tryz.en73 (args : Array Value) (w : World) : (callFunc 73 args).run Tryz.prog w = .ok (.enter 73 args) w := enters_fn Tryz.func73 (by kernel_rfl) rfl args w
theorem Tryz.en74 (args : Array Value) (w : World) : (callFunc 74 args).run Tryz.prog w = .ok (.enter 74 args) w := enters_fn Tryz.func74 (by kernel_rfl) rfl args w
theorem Tryz.en82 (args : Array Value) (w : World) : (callFunc 82 args).run Tryz.prog w = .ok (.enter 82 args) w := enters_fn Tryz.func82 (by kernel_rfl) rfl args w
theorem Tryz.en86 (args : Array Value) (w : World) : (callFunc 86 args).run Tryz.prog w = .ok (.enter 86 args) w := enters_fn Tryz.func86 (by kernel_rfl) rfl args w
theorem Tryz.en87 (args : Array Value) (w : World) : (callFunc 87 args).run Tryz.prog w = .ok (.enter 87 args) w := enters_fn Tryz.func87 (by kernel_rfl) rfl args w
theorem Tryz.en88 (args : Array Value) (w : World) : (callFunc 88 args).run Tryz.prog w = .ok (.enter 88 args) w := enters_fn Tryz.func88 (by kernel_rfl) rfl args w
theorem Tryz.en89 (args : Array Value) (w : World) : (callFunc 89 args).run Tryz.prog w = .ok (.enter 89 args) w := enters_fn Tryz.func89 (by kernel_rfl) rfl args w
theorem Tryz.en90 (args : Array Value) (w : World) : (callFunc 90 args).run Tryz.prog w = .ok (.enter 90 args) w := enters_fn Tryz.func90 (by kernel_rfl) rfl args w
theorem Tryz.en91 (args : Array Value) (w : World) : (callFunc 91 args).run Tryz.prog w = .ok (.enter 91 args) w := enters_fn Tryz.func91 (by kernel_rfl) rfl args w
theorem Tryz.en92 (args : Array Value) (w : World) : (callFunc 92 args).run Tryz.prog w = .ok (.enter 92 args) w := enters_fn Tryz.func92 (by kernel_rfl) rfl args w
theorem Tryz.en93 (args : Array Value) (w : World) : (callFunc 93 args).run Tryz.prog w = .ok (.enter 93 args) w := enters_fn Tryz.func93 (by kernel_rfl) rfl args w
theorem Tryz.en94 (args : Array Value) (w : World) : (callFunc 94 args).run Tryz.prog w = .ok (.enter 94 args) w := enters_fn Tryz.func94 (by kernel_rfl) rfl args w
theorem Tryz.en95 (args : Array Value) (w : World) : (callFunc 95 args).run Tryz.prog w = .ok (.enter 95 args) w := enters_fn Tryz.func95 (by kernel_rfl) rfl args w
theorem Tryz.en96 (args : Array Value) (w : World) : (callFunc 96 args).run Tryz.prog w = .ok (.enter 96 args) w := enters_fn Tryz.func96 (by kernel_rfl) rfl args w
theorem Tryz.en97 (args : Array Value) (w : World) : (callFunc 97 args).run Tryz.prog w = .ok (.enter 97 args) w := enters_fn Tryz.func97 (by kernel_rfl) rfl args w
theorem Tryz.en98 (args : Array Value) (w : World) : (callFunc 98 args).run Tryz.prog w = .ok (.enter 98 args) w := enters_fn Tryz.func98 (by kernel_rfl) rfl args w
theorem Tryz.en99 (args : Array Value) (w : World) : (callFunc 99 args).run Tryz.prog w = .ok (.enter 99 args) w := enters_fn Tryz.func99 (by kernel_rfl) rfl args w
theorem Tryz.en100 (args : Array Value) (w : World) : (callFunc 100 args).run Tryz.prog w = .ok (.enter 100 args) w := enters_fn Tryz.func100 (by kernel_rfl) rfl args w
theorem Tryz.en101 (args : Array Value) (w : World) : (callFunc 101 args).run Tryz.prog w = .ok (.enter 101 args) w := enters_fn Tryz.func101 (by kernel_rfl) rfl args w
theorem Tryz.en102 (args : Array Value) (w : World) : (callFunc 102 args).run Tryz.prog w = .ok (.enter 102 args) w := enters_fn Tryz.func102 (by kernel_rfl) rfl args w
theorem Tryz.en103 (args : Array Value) (w : World) : (callFunc 103 args).run Tryz.prog w = .ok (.enter 103 args) w := enters_fn Tryz.func103 (by kernel_rfl) rfl args w
theorem Tryz.en104 (args : Array Value) (w : World) : (callFunc 104 args).run Tryz.prog w = .ok (.enter 104 args) w := enters_fn Tryz.func104 (by kernel_rfl) rfl args w
theorem Tryz.en105 (args : Array Value) (w : World) : (callFunc 105 args).run Tryz.prog w = .ok (.enter 105 args) w := enters_fn Tryz.func105 (by kernel_rfl) rfl args w
theorem Tryz.en106 (args : Array Value) (w : World) : (callFunc 106 args).run Tryz.prog w = .ok (.enter 106 args) w := enters_fn Tryz.func106 (by kernel_rfl) rfl args w
theorem Tryz.en107 (args : Array Value) (w : World) : (callFunc 107 args).run Tryz.prog w = .ok (.enter 107 args) w := enters_fn Tryz.func107 (by kernel_rfl) rfl args w
theorem Tryz.en108 (args : Array Value) (w : World) : (callFunc 108 args).run Tryz.prog w = .ok (.enter 108 args) w := enters_fn Tryz.func108 (by kernel_rfl) rfl args w
theorem Tryz.en109 (args : Array Value) (w : World) : (callFunc 109 args).run Tryz.prog w = .ok (.enter 109 args) w := enters_fn Tryz.func109 (by kernel_rfl) rfl args w
theorem Tryz.en110 (args : Array Value) (w : World) : (callFunc 110 args).run Tryz.prog w = .ok (.enter 110 args) w := enters_fn Tryz.func110 (by kernel_rfl) rfl args w
theorem Tryz.en111 (args : Array Value) (w : World) : (callFunc 111 args).run Tryz.prog w = .ok (.enter 111 args) w := enters_fn Tryz.func111 (by kernel_rfl) rfl args w
theorem Tryz.en112 (args : Array Value) (w : World) : (callFunc 112 args).run Tryz.prog w = .ok (.enter 112 args) w := enters_fn Tryz.func112 (by kernel_rfl) rfl args w
theorem Tryz.en113 (args : Array Value) (w : World) : (callFunc 113 args).run Tryz.prog w = .ok (.enter 113 args) w := enters_fn Tryz.func113 (by kernel_rfl) rfl args w
theorem Tryz.en114 (args : Array Value) (w : World) : (callFunc 114 args).run Tryz.prog w = .ok (.enter 114 args) w := enters_fn Tryz.func114 (by kernel_rfl) rfl args w
theorem Tryz.en115 (args : Array Value) (w : World) : (callFunc 115 args).run Tryz.prog w = .ok (.enter 115 args) w := enters_fn Tryz.func115 (by kernel_rfl) rfl args w
theorem Tryz.en118 (args : Array Value) (w : World) : (callFunc 118 args).run Tryz.prog w = .ok (.enter 118 args) w := enters_fn Tryz.func118 (by kernel_rfl) rfl args w
theorem Tryz.en119 (args : Array Value) (w : World) : (callFunc 119 args).run Tryz.prog w = .ok (.enter 119 args) w := enters_fn Tryz.func119 (by kernel_rfl) rfl args w
theorem Tryz.en120 (args : Array Value) (w : World) : (callFunc 120 args).run Tryz.prog w = .ok (.enter 120 args) w := enters_fn Tryz.func120 (by kernel_rfl) rfl args w
theorem Tryz.en121 (args : Array Value) (w : World) : (callFunc 121 args).run Tryz.prog w = .ok (.enter 121 args) w := enters_fn Tryz.func121 (by kernel_rfl) rfl args w
theorem Tryz.en122 (args : Array Value) (w : World) : (callFunc 122 args).run Tryz.prog w = .ok (.enter 122 args) w := enters_fn Tryz.func122 (by kernel_rfl) rfl args w
theorem Tryz.en123 (args : Array Value) (w : World) : (callFunc 123 args).run Tryz.prog w = .ok (.enter 123 args) w := enters_fn Tryz.func123 (by kernel_rfl) rfl args w
theorem Tryz.en124 (args : Array Value) (w : World) : (callFunc 124 args).run Tryz.prog w = .ok (.enter 124 args) w := enters_fn Tryz.func124 (by kernel_rfl) rfl args w
theorem Tryz.en133 (args : Array Value) (w : World) : (callFunc 133 args).run Tryz.prog w = .ok (.enter 133 args) w := enters_fn Tryz.func133 (by kernel_rfl) rfl args w
theorem Tryz.en134 (args : Array Value) (w : World) : (callFunc 134 args).run Tryz.prog w = .ok (.enter 134 args) w := enters_fn Tryz.func134 (by kernel_rfl) rfl args w
theorem Tryz.en135 (args : Array Value) (w : World) : (callFunc 135 args).run Tryz.prog w = .ok (.enter 135 args) w := enters_fn Tryz.func135 (by kernel_rfl) rfl args w
theorem Tryz.en136 (args : Array Value) (w : World) : (callFunc 136 args).run Tryz.prog w = .ok (.enter 136 args) w := enters_fn Tryz.func136 (by kernel_rfl) rfl args w
theorem Tryz.en137 (args : Array Value) (w : World) : (callFunc 137 args).run Tryz.prog w = .ok (.enter 137 args) w := enters_fn Tryz.func137 (by kernel_rfl) rfl args w
theorem Tryz.en138 (args : Array Value) (w : World) : (callFunc 138 args).run Tryz.prog w = .ok (.enter 138 args) w := enters_fn Tryz.func138 (by kernel_rfl) rfl args w
theorem Tryz.en139 (args : Array Value) (w : World) : (callFunc 139 args).run Tryz.prog w = .ok (.enter 139 args) w := enters_fn Tryz.func139 (by kernel_rfl) rfl args w
theorem Tryz.en140 (args : Array Value) (w : World) : (callFunc 140 args).run Tryz.prog w = .ok (.enter 140 args) w := enters_fn Tryz.func140 (by kernel_rfl) rfl args w
theorem Tryz.en141 (args : Array Value) (w : World) : (callFunc 141 args).run Tryz.prog w = .ok (.enter 141 args) w := enters_fn Tryz.func141 (by kernel_rfl) rfl args w
theorem Tryz.en142 (args : Array Value) (w : World) : (callFunc 142 args).run Tryz.prog w = .ok (.enter 142 args) w := enters_fn Tryz.func142 (by kernel_rfl) rfl args w
theorem Tryz.en143 (args : Array Value) (w : World) : (callFunc 143 args).run Tryz.prog w = .ok (.enter 143 args) w := enters_fn Tryz.func143 (by kernel_rfl) rfl args w
theorem Tryz.en144 (args : Array Value) (w : World) : (callFunc 144 args).run Tryz.prog w = .ok (.enter 144 args) w := enters_fn Tryz.func144 (by kernel_rfl) rfl args w
theorem Tryz.en145 (args : Array Value) (w : World) : (callFunc 145 args).run Tryz.prog w = .ok (.enter 145 args) w := enters_fn Tryz.func145 (by kernel_rfl) rfl args w
theorem Tryz.en146 (args : Array Value) (w : World) : (callFunc 146 args).run Tryz.prog w = .ok (.enter 146 args) w := enters_fn Tryz.func146 (by kernel_rfl) rfl args w
theorem Tryz.en147 (args : Array Value) (w : World) : (callFunc 147 args).run Tryz.prog w = .ok (.enter 147 args) w := enters_fn Tryz.func147 (by kernel_rfl) rfl args w
theorem Tryz.en148 (args : Array Value) (w : World) : (callFunc 148 args).run Tryz.prog w = .ok (.enter 148 args) w := enters_fn Tryz.func148 (by kernel_rfl) rfl args w
theorem Tryz.en149 (args : Array Value) (w : World) : (callFunc 149 args).run Tryz.prog w = .ok (.enter 149 args) w := enters_fn Tryz.func149 (by kernel_rfl) rfl args w
theorem Tryz.en150 (args : Array Value) (w : World) : (callFunc 150 args).run Tryz.prog w = .ok (.enter 150 args) w := enters_fn Tryz.func150 (by kernel_rfl) rfl args w
theorem Tryz.en151 (args : Array Value) (w : World) : (callFunc 151 args).run Tryz.prog w = .ok (.enter 151 args) w := enters_fn Tryz.func151 (by kernel_rfl) rfl args w
theorem Tryz.en152 (args : Array Value) (w : World) : (callFunc 152 args).run Tryz.prog w = .ok (.enter 152 args) w := enters_fn Tryz.func152 (by kernel_rfl) rfl args w
theorem Tryz.en153 (args : Array Value) (w : World) : (callFunc 153 args).run Tryz.prog w = .ok (.enter 153 args) w := enters_fn Tryz.func153 (by kernel_rfl) rfl args w
theorem Tryz.en154 (args : Array Value) (w : World) : (callFunc 154 args).run Tryz.prog w = .ok (.enter 154 args) w := enters_fn Tryz.func154 (by kernel_rfl) rfl args w
theorem Tryz.en155 (args : Array Value) (w : World) : (callFunc 155 args).run Tryz.prog w = .ok (.enter 155 args) w := enters_fn Tryz.func155 (by kernel_rfl) rfl args w
theorem Tryz.en156 (args : Array Value) (w : World) : (callFunc 156 args).run Tryz.prog w = .ok (.enter 156 args) w := enters_fn Tryz.func156 (by kernel_rfl) rfl args w
theorem Tryz.en157 (args : Array Value) (w : World) : (callFunc 157 args).run Tryz.prog w = .ok (.enter 157 args) w := enters_fn Tryz.func157 (by kernel_rfl) rfl args w
theorem Tryz.en158 (args : Array Value) (w : World) : (callFunc 158 args).run Tryz.prog w = .ok (.enter 158 args) w := enters_fn Tryz.func158 (by kernel_rfl) rfl args w
theorem Tryz.en159 (args : Array Value) (w : World) : (callFunc 159 args).run Tryz.prog w = .ok (.enter 159 args) w := enters_fn Tryz.func159 (by kernel_rfl) rfl args w
theorem Tryz.en160 (args : Array Value) (w : World) : (callFunc 160 args).run Tryz.prog w = .ok (.enter 160 args) w := enters_fn Tryz.func160 (by kernel_rfl) rfl args w
theorem Tryz.en161 (args : Array Value) (w : World) : (callFunc 161 args).run Tryz.prog w = .ok (.enter 161 args) w := enters_fn Tryz.func161 (by kernel_rfl) rfl args w
theorem Tryz.en162 (args : Array Value) (w : World) : (callFunc 162 args).run Tryz.prog w = .ok (.enter 162 args) w := enters_fn Tryz.func162 (by kernel_rfl) rfl args w
theorem Tryz.en163 (args : Array Value) (w : World) : (callFunc 163 args).run Tryz.prog w = .ok (.enter 163 args) w := enters_fn Tryz.func163 (by kernel_rfl) rfl args w
theorem Tryz.en164 (args : Array Value) (w : World) : (callFunc 164 args).run Tryz.prog w = .ok (.enter 164 args) w := enters_fn Tryz.func164 (by kernel_rfl) rfl args w
theorem Tryz.en165 (args : Array Value) (w : World) : (callFunc 165 args).run Tryz.prog w = .ok (.enter 165 args) w := enters_fn Tryz.func165 (by kernel_rfl) rfl args w
theorem Tryz.en167 (args : Array Value) (w : World) : (callFunc 167 args).run Tryz.prog w = .ok (.enter 167 args) w := enters_fn Tryz.func167 (by kernel_rfl) rfl args w
theorem Tryz.en168 (args : Array Value) (w : World) : (callFunc 168 args).run Tryz.prog w = .ok (.enter 168 args) w := enters_fn Tryz.func168 (by kernel_rfl) rfl args w
theorem Tryz.en169 (args : Array Value) (w : World) : (callFunc 169 args).run Tryz.prog w = .ok (.enter 169 args) w := enters_fn Tryz.func169 (by kernel_rfl) rfl args w
theorem Tryz.en171 (args : Array Value) (w : World) : (callFunc 171 args).run Tryz.prog w = .ok (.enter 171 args) w := enters_fn Tryz.func171 (by kernel_rfl) rfl args w
theorem Tryz.en172 (args : Array Value) (w : World) : (callFunc 172 args).run Tryz.prog w = .ok (.enter 172 args) w := enters_fn Tryz.func172 (by kernel_rfl) rfl args w
theorem Tryz.places24 (w : World) : (placesOf 24).run Tryz.prog w = .ok #[(0, 1), (1, 1), (2, 1), (3, 1), (4, 1), (5, 1), (6, 1), (7, 1), (8, 1), (9, 1), (10, 1)] w := by kernel_rfl
theorem Tryz.places34 (w : World) : (placesOf 34).run Tryz.prog w = .ok #[(0, 1), (1, 1)] w := by kernel_rfl
theorem Tryz.places37 (w : World) : (placesOf 37).run Tryz.prog w = .ok #[(0, 1), (1, 2), (3, 2), (5, 1)] w := by kernel_rfl
theorem Tryz.places50 (w : World) : (placesOf 50).run Tryz.prog w = .ok #[(0, 1), (1, 1), (2, 1), (3, 1), (4, 1), (5, 1), (6, 1), (7, 1), (8, 1), (9, 1), (10, 1), (11, 1), (12, 1), (13, 1), (14, 1), (15, 1), (16, 1), (17, 1), (18, 1)] w := by kernel_rfl
theorem Tryz.places68 (w : World) : (placesOf 68).run Tryz.prog w = .ok #[(0, 11), (11, 1), (12, 1), (13, 1)] w := by kernel_rfl
theorem Tryz.places91 (w : World) : (placesOf 91).run Tryz.prog w = .ok #[(0, 1), (1, 1)] w := by kernel_rfl
theorem Tryz.places100 (w : World) : (placesOf 100).run Tryz.prog w = .ok #[(0, 1), (1, 1)] w := by kernel_rfl
theorem Tryz.places128 (w : World) : (placesOf 128).run Tryz.prog w = .ok #[(0, 2)] w := by kernel_rfl
theorem Tryz.places136 (w : World) : (placesOf 136).run Tryz.prog w = .ok #[(0, 1), (1, 1), (2, 1), (3, 1)] w := by kernel_rfl
theorem Tryz.places161 (w : World) : (placesOf 161).run Tryz.prog w = .ok #[(0, 1), (1, 1), (2, 1)] w := by kernel_rfl
end Go.Proofs
end
section
namespace Go.Proofs
open Go.Wx Go.ChangeShapes Go.WideShapes Go.RowKit
theorem Tryz.elI6 {H : Type} {enc : TypeId × Value → H} {w : World} {b : Nat} {sp : Nat → Bool} {hd : Bool} (n : Nat) (cs : List Value) (x : DataW H × List MemPlace) (hl : cs.length = 6) (h : DataW.trod enc Tryz.prog w b sp hd n 81 cs = some x) : ∃ f : I6, cs = f.cells.toList ∧ I6Ok f := by
  have k_int : Tryz.prog.cellsOf 3 = 1 := by kernel_rfl
  match cs, hl with
  | [c0, c1, c2, c3, c4, c5], _ =>
    obtain ⟨xs, m, _, _, _, hlen, hg⟩ := DataW.trod_array Tryz.underlying81 h
    have hs : ∀ i, i < 6 → ∃ y, xs[i]? = some y := fun i hi => ⟨_, List.getElem?_eq_getElem (by omega)⟩
    obtain ⟨y0, z0⟩ := hs 0 (by decide)
    obtain ⟨n0, e0, _, q0⟩ := DataW.trod_int Tryz.underlying3 (show DataW.trod enc Tryz.prog w b sp hd m 3 [c0] = some y0 from by rw [← z0]; simpa [k_int] using hg 0 (by decide))
    obtain ⟨y1, z1⟩ := hs 1 (by decide)
    obtain ⟨n1, e1, _, q1⟩ := DataW.trod_int Tryz.underlying3 (show DataW.trod enc Tryz.prog w b sp hd m 3 [c1] = some y1 from by rw [← z1]; simpa [k_int] using hg 1 (by decide))
    obtain ⟨y2, z2⟩ := hs 2 (by decide)
    obtain ⟨n2, e2, _, q2⟩ := DataW.trod_int Tryz.underlying3 (show DataW.trod enc Tryz.prog w b sp hd m 3 [c2] = some y2 from by rw [← z2]; simpa [k_int] using hg 2 (by decide))
    obtain ⟨y3, z3⟩ := hs 3 (by decide)
    obtain ⟨n3, e3, _, q3⟩ := DataW.trod_int Tryz.underlying3 (show DataW.trod enc Tryz.prog w b sp hd m 3 [c3] = some y3 from by rw [← z3]; simpa [k_int] using hg 3 (by decide))
    obtain ⟨y4, z4⟩ := hs 4 (by decide)
    obtain ⟨n4, e4, _, q4⟩ := DataW.trod_int Tryz.underlying3 (show DataW.trod enc Tryz.prog w b sp hd m 3 [c4] = some y4 from by rw [← z4]; simpa [k_int] using hg 4 (by decide))
    obtain ⟨y5, z5⟩ := hs 5 (by decide)
    obtain ⟨n5, e5, _, q5⟩ := DataW.trod_int Tryz.underlying3 (show DataW.trod enc Tryz.prog w b sp hd m 3 [c5] = some y5 from by rw [← z5]; simpa [k_int] using hg 5 (by decide))
    cases e0
    cases e1
    cases e2
    cases e3
    cases e4
    cases e5
    exact ⟨⟨n0, n1, n2, n3, n4, n5⟩, rfl, ⟨wf_inI q0, wf_inI q1, wf_inI q2, wf_inI q3, wf_inI q4, wf_inI q5⟩⟩
end Go.Proofs
end
