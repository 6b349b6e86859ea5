-- WInv (what this claim uses of them)
import Derived.Test.YtehgfpfmpkmdmaaDoorYv2
